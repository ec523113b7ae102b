/- The program, az a fact about any program that has these functions. -/
import Derived.Test.YtapddfjimhohcaaGreatDoorB2
import Derived.Shelf.Small.Bits
import Derived.Shelf.Strconv.Itoa0
import Derived.Shelf.Bits.Mul64
import Derived.Laws.Externs
import Derived.Shelf.Strings.SlTrimAscii
import Derived.Shelf.Strings.Search2
import Derived.Lib.Bytealg
import Derived.Lib.ItoaNum
import Derived.OpenShut
import Derived.Test.YtapddfjimhohcaaGreatDoorRows
import Derived.ProofKit
import Derived.ChangeBears2
import Derived.JoinedOf
import Derived.Handed
import Derived.Carry
namespace Go.Proofs.YtapddfjimhohcaaGreatDoor.AM
set_option linter.all false
set_option autoImplicit true
set_option relaxedAutoImplicit true
open Go Go.Proofs
structure PrgOk (P:Program):Prop where
 mix:P.follows .mixedOrders=true
 t0:TyOk P T0
 t1:TyOk P T1
 t2:TyOk P T2
 tF:TyOk P TF
 len64:∀ x:Nat,x<18446744073709551616→CSpec P 122 [.int .u64 (x:Int)] (.int .i64 (blen x:Nat))
 lz64:∀ x:Nat,x<18446744073709551616→CSpec P 146 [.int .u64 (x:Int)] (.int .i64 ((64-blen x:Nat):Int))
 mul64:∀ x y:Nat,x<18446744073709551616→y<18446744073709551616→CSpec P 105 [.int .u64 (x:Int),.int .u64 (y:Int)] (.tup [.int .u64 ((mulh x y:Nat):Int),.int .u64 ((mull x y:Nat):Int)])
 add64:∀ x y c:Nat,x<18446744073709551616→c≤1→CSpec P 107 [.int .u64 (x:Int),.int .u64 (y:Int),.int .u64 (c:Int)] (.tup [.int .u64 ((addl x y c:Nat):Int),.int .u64 ((addh x y c:Nat):Int)])
 sub64:∀ x y c:Nat,x<18446744073709551616→c≤1→CSpec P 125 [.int .u64 (x:Int),.int .u64 (y:Int),.int .u64 (c:Int)] (.tup [.int .u64 ((subd x y c:Nat):Int),.int .u64 ((bor x y c:Nat):Int)])
 ixb:∀ (s:ByteArray) (d:UInt8),CSpec P 161 [.str s,.str ⟨#[d]⟩] (.int .i64 (ixL d.toNat (bz s)))
 trm:∀ s:ByteArray,s.size≤9223372036854775807→CSpec P 154 [.str s,.str ⟨#[48,49,50,51,52,53,54,55,56,57]⟩] (.str (trD s))
 f3:P.funcs[(3:Nat)]? = some Tryz.f3
 f4:P.funcs[(4:Nat)]? = some Tryz.f4
 f5:P.funcs[(5:Nat)]? = some Tryz.f5
 f6:P.funcs[(6:Nat)]? = some Tryz.f6
 f7:P.funcs[(7:Nat)]? = some Tryz.f7
 f8:P.funcs[(8:Nat)]? = some Tryz.f8
 f9:P.funcs[(9:Nat)]? = some Tryz.f9
 f10:P.funcs[(10:Nat)]? = some Tryz.f10
 f11:P.funcs[(11:Nat)]? = some Tryz.f11
 f12:P.funcs[(12:Nat)]? = some Tryz.f12
 f13:P.funcs[(13:Nat)]? = some Tryz.f13
 f14:P.funcs[(14:Nat)]? = some Tryz.f14
 f15:P.funcs[(15:Nat)]? = some Tryz.f15
 f16:P.funcs[(16:Nat)]? = some Tryz.f16
 f17:P.funcs[(17:Nat)]? = some Tryz.f17
 f18:P.funcs[(18:Nat)]? = some Tryz.f18
 f19:P.funcs[(19:Nat)]? = some Tryz.f19
 f20:P.funcs[(20:Nat)]? = some Tryz.f20
 f21:P.funcs[(21:Nat)]? = some Tryz.f21
 f22:P.funcs[(22:Nat)]? = some Tryz.f22
 f23:P.funcs[(23:Nat)]? = some Tryz.f23
 f24:P.funcs[(24:Nat)]? = some Tryz.f24
 f25:P.funcs[(25:Nat)]? = some Tryz.f25
 f26:P.funcs[(26:Nat)]? = some Tryz.f26
 f27:P.funcs[(27:Nat)]? = some Tryz.f27
 f28:P.funcs[(28:Nat)]? = some Tryz.f28
 f29:P.funcs[(29:Nat)]? = some Tryz.f29
 f30:P.funcs[(30:Nat)]? = some Tryz.f30
 f31:P.funcs[(31:Nat)]? = some Tryz.f31
 f32:P.funcs[(32:Nat)]? = some Tryz.f32
 f33:P.funcs[(33:Nat)]? = some Tryz.f33
 f34:P.funcs[(34:Nat)]? = some Tryz.f34
 f35:P.funcs[(35:Nat)]? = some Tryz.f35
 f36:P.funcs[(36:Nat)]? = some Tryz.f36
 f37:P.funcs[(37:Nat)]? = some Tryz.f37
 f38:P.funcs[(38:Nat)]? = some Tryz.f38
 f39:P.funcs[(39:Nat)]? = some Tryz.f39
 f40:P.funcs[(40:Nat)]? = some Tryz.f40
 f41:P.funcs[(41:Nat)]? = some Tryz.f41
 f42:P.funcs[(42:Nat)]? = some Tryz.f42
 f43:P.funcs[(43:Nat)]? = some Tryz.f43
 f44:P.funcs[(44:Nat)]? = some Tryz.f44
 f45:P.funcs[(45:Nat)]? = some Tryz.f45
 f46:P.funcs[(46:Nat)]? = some Tryz.f46
 f47:P.funcs[(47:Nat)]? = some Tryz.f47
 f48:P.funcs[(48:Nat)]? = some Tryz.f48
 f49:P.funcs[(49:Nat)]? = some Tryz.f49
 f50:P.funcs[(50:Nat)]? = some Tryz.f50
 f51:P.funcs[(51:Nat)]? = some Tryz.f51
 f52:P.funcs[(52:Nat)]? = some Tryz.f52
 f53:P.funcs[(53:Nat)]? = some Tryz.f53
 f54:P.funcs[(54:Nat)]? = some Tryz.f54
 f55:P.funcs[(55:Nat)]? = some Tryz.f55
 f56:P.funcs[(56:Nat)]? = some Tryz.f56
 f57:P.funcs[(57:Nat)]? = some Tryz.f57
 f58:P.funcs[(58:Nat)]? = some Tryz.f58
 f59:P.funcs[(59:Nat)]? = some Tryz.f59
 f60:P.funcs[(60:Nat)]? = some Tryz.f60
 f61:P.funcs[(61:Nat)]? = some Tryz.f61
 f62:P.funcs[(62:Nat)]? = some Tryz.f62
 f63:P.funcs[(63:Nat)]? = some Tryz.f63
 f64:P.funcs[(64:Nat)]? = some Tryz.f64
 f65:P.funcs[(65:Nat)]? = some Tryz.f65
 f66:P.funcs[(66:Nat)]? = some Tryz.f66
 f67:P.funcs[(67:Nat)]? = some Tryz.f67
 f68:P.funcs[(68:Nat)]? = some Tryz.f68
 f69:P.funcs[(69:Nat)]? = some Tryz.f69
 f70:P.funcs[(70:Nat)]? = some Tryz.f70
 f71:P.funcs[(71:Nat)]? = some Tryz.f71
 f72:P.funcs[(72:Nat)]? = some Tryz.f72
 f73:P.funcs[(73:Nat)]? = some Tryz.f73
 f74:P.funcs[(74:Nat)]? = some Tryz.f74
 f75:P.funcs[(75:Nat)]? = some Tryz.f75
 f76:P.funcs[(76:Nat)]? = some Tryz.f76
 f77:P.funcs[(77:Nat)]? = some Tryz.f77
 f78:P.funcs[(78:Nat)]? = some Tryz.f78
 f79:P.funcs[(79:Nat)]? = some Tryz.f79
 f80:P.funcs[(80:Nat)]? = some Tryz.f80
 f81:P.funcs[(81:Nat)]? = some Tryz.f81
 f82:P.funcs[(82:Nat)]? = some Tryz.f82
 f83:P.funcs[(83:Nat)]? = some Tryz.f83
 f84:P.funcs[(84:Nat)]? = some Tryz.f84
 f85:P.funcs[(85:Nat)]? = some Tryz.f85
 f86:P.funcs[(86:Nat)]? = some Tryz.f86
 f87:P.funcs[(87:Nat)]? = some Tryz.f87
 f88:P.funcs[(88:Nat)]? = some Tryz.f88
 f89:P.funcs[(89:Nat)]? = some Tryz.f89
 f90:P.funcs[(90:Nat)]? = some Tryz.f90
 f91:P.funcs[(91:Nat)]? = some Tryz.f91
 f92:P.funcs[(92:Nat)]? = some Tryz.f92
 f93:P.funcs[(93:Nat)]? = some Tryz.f93
 f94:P.funcs[(94:Nat)]? = some Tryz.f94
 f95:P.funcs[(95:Nat)]? = some Tryz.f95
 f96:P.funcs[(96:Nat)]? = some Tryz.f96
 f97:P.funcs[(97:Nat)]? = some Tryz.f97
 f98:P.funcs[(98:Nat)]? = some Tryz.f98
 f99:P.funcs[(99:Nat)]? = some Tryz.f99
 f100:P.funcs[(100:Nat)]? = some Tryz.f100
 f101:P.funcs[(101:Nat)]? = some Tryz.f101
 f102:P.funcs[(102:Nat)]? = some Tryz.f102
 f103:P.funcs[(103:Nat)]? = some Tryz.f103
 f104:P.funcs[(104:Nat)]? = some Tryz.f104
 f105:P.funcs[(105:Nat)]? = some Tryz.f105
 f106:P.funcs[(106:Nat)]? = some Tryz.f106
 f107:P.funcs[(107:Nat)]? = some Tryz.f107
 f108:P.funcs[(108:Nat)]? = some Tryz.f108
 f109:P.funcs[(109:Nat)]? = some Tryz.f109
 f110:P.funcs[(110:Nat)]? = some Tryz.f110
 f111:P.funcs[(111:Nat)]? = some Tryz.f111
 f112:P.funcs[(112:Nat)]? = some Tryz.f112
 f113:P.funcs[(113:Nat)]? = some Tryz.f113
 f114:P.funcs[(114:Nat)]? = some Tryz.f114
 f115:P.funcs[(115:Nat)]? = some Tryz.f115
 f116:P.funcs[(116:Nat)]? = some Tryz.f116
 f117:P.funcs[(117:Nat)]? = some Tryz.f117
 f118:P.funcs[(118:Nat)]? = some Tryz.f118
 f119:P.funcs[(119:Nat)]? = some Tryz.f119
 f120:P.funcs[(120:Nat)]? = some Tryz.f120
 f121:P.funcs[(121:Nat)]? = some Tryz.f121
 f122:P.funcs[(122:Nat)]? = some Tryz.f122
 f123:P.funcs[(123:Nat)]? = some Tryz.f123
 f124:P.funcs[(124:Nat)]? = some Tryz.f124
 f125:P.funcs[(125:Nat)]? = some Tryz.f125
 f126:P.funcs[(126:Nat)]? = some Tryz.f126
 f127:P.funcs[(127:Nat)]? = some Tryz.f127
 f128:P.funcs[(128:Nat)]? = some Tryz.f128
 f129:P.funcs[(129:Nat)]? = some Tryz.f129
 f130:P.funcs[(130:Nat)]? = some Tryz.f130
 f131:P.funcs[(131:Nat)]? = some Tryz.f131
 f132:P.funcs[(132:Nat)]? = some Tryz.f132
 f133:P.funcs[(133:Nat)]? = some Tryz.f133
 f134:P.funcs[(134:Nat)]? = some Tryz.f134
 f135:P.funcs[(135:Nat)]? = some Tryz.f135
 f136:P.funcs[(136:Nat)]? = some Tryz.f136
 f137:P.funcs[(137:Nat)]? = some Tryz.f137
 f138:P.funcs[(138:Nat)]? = some Tryz.f138
 f139:P.funcs[(139:Nat)]? = some Tryz.f139
 f140:P.funcs[(140:Nat)]? = some Tryz.f140
 f141:P.funcs[(141:Nat)]? = some Tryz.f141
 f142:P.funcs[(142:Nat)]? = some Tryz.f142
 f143:P.funcs[(143:Nat)]? = some Tryz.f143
 f144:P.funcs[(144:Nat)]? = some Tryz.f144
 f145:P.funcs[(145:Nat)]? = some Tryz.f145
 f146:P.funcs[(146:Nat)]? = some Tryz.f146
 f147:P.funcs[(147:Nat)]? = some Tryz.f147
 f148:P.funcs[(148:Nat)]? = some Tryz.f148
 f149:P.funcs[(149:Nat)]? = some Tryz.f149
 f150:P.funcs[(150:Nat)]? = some Tryz.f150
 f151:P.funcs[(151:Nat)]? = some Tryz.f151
 f152:P.funcs[(152:Nat)]? = some Tryz.f152
 f153:P.funcs[(153:Nat)]? = some Tryz.f153
 f155:P.funcs[(155:Nat)]? = some Tryz.f155
 f156:P.funcs[(156:Nat)]? = some Tryz.f156
 f157:P.funcs[(157:Nat)]? = some Tryz.f157
 f158:P.funcs[(158:Nat)]? = some Tryz.f158
 f159:P.funcs[(159:Nat)]? = some Tryz.f159
 f160:P.funcs[(160:Nat)]? = some Tryz.f160
 f162:P.funcs[(162:Nat)]? = some Tryz.f162
 f170:P.funcs[(170:Nat)]? = some Tryz.f170
 f201:P.funcs[(201:Nat)]? = some Tryz.f201
theorem fn3 {P} (h:PrgOk P):FnOk P 3 Tryz.f3:=⟨h.f3,by kernel_rfl,by kernel_rfl⟩
theorem nt3:Tryz.f3.ntmps=69:=rfl
theorem rs3:Tryz.f3.results.toList=[Go.ResultVar.tmp 2]:=rfl
theorem fn4 {P} (h:PrgOk P):FnOk P 4 Tryz.f4:=⟨h.f4,by kernel_rfl,by kernel_rfl⟩
theorem nt4:Tryz.f4.ntmps=66:=rfl
theorem rs4:Tryz.f4.results.toList=[Go.ResultVar.tmp 2]:=rfl
theorem fn5 {P} (h:PrgOk P):FnOk P 5 Tryz.f5:=⟨h.f5,by kernel_rfl,by kernel_rfl⟩
theorem nt5:Tryz.f5.ntmps=164:=rfl
theorem rs5:Tryz.f5.results.toList=[Go.ResultVar.tmp 4]:=rfl
theorem fn6 {P} (h:PrgOk P):FnOk P 6 Tryz.f6:=⟨h.f6,by kernel_rfl,by kernel_rfl⟩
theorem nt6:Tryz.f6.ntmps=37:=rfl
theorem rs6:Tryz.f6.results.toList=[Go.ResultVar.tmp 2]:=rfl
theorem fn7 {P} (h:PrgOk P):FnOk P 7 Tryz.f7:=⟨h.f7,by kernel_rfl,by kernel_rfl⟩
theorem nt7:Tryz.f7.ntmps=163:=rfl
theorem rs7:Tryz.f7.results.toList=[Go.ResultVar.tmp 2]:=rfl
theorem fn8 {P} (h:PrgOk P):FnOk P 8 Tryz.f8:=⟨h.f8,by kernel_rfl,by kernel_rfl⟩
theorem nt8:Tryz.f8.ntmps=37:=rfl
theorem rs8:Tryz.f8.results.toList=[Go.ResultVar.tmp 2]:=rfl
theorem fn9 {P} (h:PrgOk P):FnOk P 9 Tryz.f9:=⟨h.f9,by kernel_rfl,by kernel_rfl⟩
theorem nt9:Tryz.f9.ntmps=284:=rfl
theorem rs9:Tryz.f9.results.toList=[Go.ResultVar.tmp 4]:=rfl
theorem fn10 {P} (h:PrgOk P):FnOk P 10 Tryz.f10:=⟨h.f10,by kernel_rfl,by kernel_rfl⟩
theorem nt10:Tryz.f10.ntmps=96:=rfl
theorem rs10:Tryz.f10.results.toList=[Go.ResultVar.tmp 2]:=rfl
theorem fn11 {P} (h:PrgOk P):FnOk P 11 Tryz.f11:=⟨h.f11,by kernel_rfl,by kernel_rfl⟩
theorem nt11:Tryz.f11.ntmps=35:=rfl
theorem rs11:Tryz.f11.results.toList=[Go.ResultVar.cell 2 37,Go.ResultVar.cell 3 44,Go.ResultVar.tmp 4]:=rfl
theorem fn12 {P} (h:PrgOk P):FnOk P 12 Tryz.f12:=⟨h.f12,by kernel_rfl,by kernel_rfl⟩
theorem nt12:Tryz.f12.ntmps=43:=rfl
theorem rs12:Tryz.f12.results.toList=[Go.ResultVar.tmp 0]:=rfl
theorem fn13 {P} (h:PrgOk P):FnOk P 13 Tryz.f13:=⟨h.f13,by kernel_rfl,by kernel_rfl⟩
theorem nt13:Tryz.f13.ntmps=13:=rfl
theorem rs13:Tryz.f13.results.toList=[Go.ResultVar.tmp 6]:=rfl
theorem fn14 {P} (h:PrgOk P):FnOk P 14 Tryz.f14:=⟨h.f14,by kernel_rfl,by kernel_rfl⟩
theorem nt14:Tryz.f14.ntmps=13:=rfl
theorem rs14:Tryz.f14.results.toList=[Go.ResultVar.tmp 6]:=rfl
theorem fn15 {P} (h:PrgOk P):FnOk P 15 Tryz.f15:=⟨h.f15,by kernel_rfl,by kernel_rfl⟩
theorem nt15:Tryz.f15.ntmps=15:=rfl
theorem rs15:Tryz.f15.results.toList=[Go.ResultVar.tmp 8]:=rfl
theorem fn16 {P} (h:PrgOk P):FnOk P 16 Tryz.f16:=⟨h.f16,by kernel_rfl,by kernel_rfl⟩
theorem nt16:Tryz.f16.ntmps=76:=rfl
theorem rs16:Tryz.f16.results.toList=[Go.ResultVar.tmp 4]:=rfl
theorem fn17 {P} (h:PrgOk P):FnOk P 17 Tryz.f17:=⟨h.f17,by kernel_rfl,by kernel_rfl⟩
theorem nt17:Tryz.f17.ntmps=18:=rfl
theorem rs17:Tryz.f17.results.toList=[Go.ResultVar.tmp 10]:=rfl
theorem fn18 {P} (h:PrgOk P):FnOk P 18 Tryz.f18:=⟨h.f18,by kernel_rfl,by kernel_rfl⟩
theorem nt18:Tryz.f18.ntmps=20:=rfl
theorem rs18:Tryz.f18.results.toList=[Go.ResultVar.tmp 8]:=rfl
theorem fn19 {P} (h:PrgOk P):FnOk P 19 Tryz.f19:=⟨h.f19,by kernel_rfl,by kernel_rfl⟩
theorem nt19:Tryz.f19.ntmps=20:=rfl
theorem rs19:Tryz.f19.results.toList=[Go.ResultVar.tmp 8]:=rfl
theorem fn20 {P} (h:PrgOk P):FnOk P 20 Tryz.f20:=⟨h.f20,by kernel_rfl,by kernel_rfl⟩
theorem nt20:Tryz.f20.ntmps=15:=rfl
theorem rs20:Tryz.f20.results.toList=[Go.ResultVar.tmp 8]:=rfl
theorem fn21 {P} (h:PrgOk P):FnOk P 21 Tryz.f21:=⟨h.f21,by kernel_rfl,by kernel_rfl⟩
theorem nt21:Tryz.f21.ntmps=13:=rfl
theorem rs21:Tryz.f21.results.toList=[Go.ResultVar.tmp 6]:=rfl
theorem fn22 {P} (h:PrgOk P):FnOk P 22 Tryz.f22:=⟨h.f22,by kernel_rfl,by kernel_rfl⟩
theorem nt22:Tryz.f22.ntmps=6:=rfl
theorem rs22:Tryz.f22.results.toList=[Go.ResultVar.tmp 2]:=rfl
theorem fn23 {P} (h:PrgOk P):FnOk P 23 Tryz.f23:=⟨h.f23,by kernel_rfl,by kernel_rfl⟩
theorem nt23:Tryz.f23.ntmps=7:=rfl
theorem rs23:Tryz.f23.results.toList=[Go.ResultVar.cell 4 36]:=rfl
theorem fn24 {P} (h:PrgOk P):FnOk P 24 Tryz.f24:=⟨h.f24,by kernel_rfl,by kernel_rfl⟩
theorem nt24:Tryz.f24.ntmps=7:=rfl
theorem rs24:Tryz.f24.results.toList=[Go.ResultVar.cell 4 36]:=rfl
theorem fn25 {P} (h:PrgOk P):FnOk P 25 Tryz.f25:=⟨h.f25,by kernel_rfl,by kernel_rfl⟩
theorem nt25:Tryz.f25.ntmps=6:=rfl
theorem rs25:Tryz.f25.results.toList=[Go.ResultVar.cell 2 33]:=rfl
theorem fn26 {P} (h:PrgOk P):FnOk P 26 Tryz.f26:=⟨h.f26,by kernel_rfl,by kernel_rfl⟩
theorem nt26:Tryz.f26.ntmps=26:=rfl
theorem rs26:Tryz.f26.results.toList=[Go.ResultVar.cell 4 33,Go.ResultVar.tmp 5]:=rfl
theorem fn27 {P} (h:PrgOk P):FnOk P 27 Tryz.f27:=⟨h.f27,by kernel_rfl,by kernel_rfl⟩
theorem nt27:Tryz.f27.ntmps=56:=rfl
theorem rs27:Tryz.f27.results.toList=[Go.ResultVar.tmp 8]:=rfl
theorem fn28 {P} (h:PrgOk P):FnOk P 28 Tryz.f28:=⟨h.f28,by kernel_rfl,by kernel_rfl⟩
theorem nt28:Tryz.f28.ntmps=54:=rfl
theorem rs28:Tryz.f28.results.toList=[Go.ResultVar.tmp 8]:=rfl
theorem fn29 {P} (h:PrgOk P):FnOk P 29 Tryz.f29:=⟨h.f29,by kernel_rfl,by kernel_rfl⟩
theorem nt29:Tryz.f29.ntmps=7:=rfl
theorem rs29:Tryz.f29.results.toList=[Go.ResultVar.cell 4 36]:=rfl
theorem fn30 {P} (h:PrgOk P):FnOk P 30 Tryz.f30:=⟨h.f30,by kernel_rfl,by kernel_rfl⟩
theorem nt30:Tryz.f30.ntmps=22:=rfl
theorem rs30:Tryz.f30.results.toList=[Go.ResultVar.tmp 2]:=rfl
theorem fn31 {P} (h:PrgOk P):FnOk P 31 Tryz.f31:=⟨h.f31,by kernel_rfl,by kernel_rfl⟩
theorem nt31:Tryz.f31.ntmps=5:=rfl
theorem rs31:Tryz.f31.results.toList=[Go.ResultVar.cell 2 36]:=rfl
theorem fn32 {P} (h:PrgOk P):FnOk P 32 Tryz.f32:=⟨h.f32,by kernel_rfl,by kernel_rfl⟩
theorem nt32:Tryz.f32.ntmps=74:=rfl
theorem rs32:Tryz.f32.results.toList=[Go.ResultVar.tmp 8]:=rfl
theorem fn33 {P} (h:PrgOk P):FnOk P 33 Tryz.f33:=⟨h.f33,by kernel_rfl,by kernel_rfl⟩
theorem nt33:Tryz.f33.ntmps=82:=rfl
theorem rs33:Tryz.f33.results.toList=[Go.ResultVar.tmp 8]:=rfl
theorem fn34 {P} (h:PrgOk P):FnOk P 34 Tryz.f34:=⟨h.f34,by kernel_rfl,by kernel_rfl⟩
theorem nt34:Tryz.f34.ntmps=32:=rfl
theorem rs34:Tryz.f34.results.toList=[Go.ResultVar.cell 2 36,Go.ResultVar.cell 3 43,Go.ResultVar.tmp 4]:=rfl
theorem fn35 {P} (h:PrgOk P):FnOk P 35 Tryz.f35:=⟨h.f35,by kernel_rfl,by kernel_rfl⟩
theorem nt35:Tryz.f35.ntmps=18:=rfl
theorem rs35:Tryz.f35.results.toList=[Go.ResultVar.cell 4 36]:=rfl
theorem fn36 {P} (h:PrgOk P):FnOk P 36 Tryz.f36:=⟨h.f36,by kernel_rfl,by kernel_rfl⟩
theorem nt36:Tryz.f36.ntmps=14:=rfl
theorem rs36:Tryz.f36.results.toList=[Go.ResultVar.cell 6 36]:=rfl
theorem fn37 {P} (h:PrgOk P):FnOk P 37 Tryz.f37:=⟨h.f37,by kernel_rfl,by kernel_rfl⟩
theorem nt37:Tryz.f37.ntmps=111:=rfl
theorem rs37:Tryz.f37.results.toList=[Go.ResultVar.tmp 4]:=rfl
theorem fn38 {P} (h:PrgOk P):FnOk P 38 Tryz.f38:=⟨h.f38,by kernel_rfl,by kernel_rfl⟩
theorem nt38:Tryz.f38.ntmps=47:=rfl
theorem rs38:Tryz.f38.results.toList=[Go.ResultVar.cell 10 43]:=rfl
theorem fn39 {P} (h:PrgOk P):FnOk P 39 Tryz.f39:=⟨h.f39,by kernel_rfl,by kernel_rfl⟩
theorem nt39:Tryz.f39.ntmps=19:=rfl
theorem rs39:Tryz.f39.results.toList=[Go.ResultVar.tmp 2]:=rfl
theorem fn40 {P} (h:PrgOk P):FnOk P 40 Tryz.f40:=⟨h.f40,by kernel_rfl,by kernel_rfl⟩
theorem nt40:Tryz.f40.ntmps=24:=rfl
theorem rs40:Tryz.f40.results.toList=[Go.ResultVar.tmp 6]:=rfl
theorem fn41 {P} (h:PrgOk P):FnOk P 41 Tryz.f41:=⟨h.f41,by kernel_rfl,by kernel_rfl⟩
theorem nt41:Tryz.f41.ntmps=9:=rfl
theorem rs41:Tryz.f41.results.toList=[Go.ResultVar.tmp 2]:=rfl
theorem fn42 {P} (h:PrgOk P):FnOk P 42 Tryz.f42:=⟨h.f42,by kernel_rfl,by kernel_rfl⟩
theorem nt42:Tryz.f42.ntmps=25:=rfl
theorem rs42:Tryz.f42.results.toList=[Go.ResultVar.cell 4 41]:=rfl
theorem fn43 {P} (h:PrgOk P):FnOk P 43 Tryz.f43:=⟨h.f43,by kernel_rfl,by kernel_rfl⟩
theorem nt43:Tryz.f43.ntmps=9:=rfl
theorem rs43:Tryz.f43.results.toList=[Go.ResultVar.cell 4 43]:=rfl
theorem fn44 {P} (h:PrgOk P):FnOk P 44 Tryz.f44:=⟨h.f44,by kernel_rfl,by kernel_rfl⟩
theorem nt44:Tryz.f44.ntmps=12:=rfl
theorem rs44:Tryz.f44.results.toList=[Go.ResultVar.cell 6 41]:=rfl
theorem fn45 {P} (h:PrgOk P):FnOk P 45 Tryz.f45:=⟨h.f45,by kernel_rfl,by kernel_rfl⟩
theorem nt45:Tryz.f45.ntmps=12:=rfl
theorem rs45:Tryz.f45.results.toList=[Go.ResultVar.cell 6 33]:=rfl
theorem fn46 {P} (h:PrgOk P):FnOk P 46 Tryz.f46:=⟨h.f46,by kernel_rfl,by kernel_rfl⟩
theorem nt46:Tryz.f46.ntmps=7:=rfl
theorem rs46:Tryz.f46.results.toList=[Go.ResultVar.cell 4 36]:=rfl
theorem fn47 {P} (h:PrgOk P):FnOk P 47 Tryz.f47:=⟨h.f47,by kernel_rfl,by kernel_rfl⟩
theorem nt47:Tryz.f47.ntmps=6:=rfl
theorem rs47:Tryz.f47.results.toList=[Go.ResultVar.tmp 2]:=rfl
theorem fn48 {P} (h:PrgOk P):FnOk P 48 Tryz.f48:=⟨h.f48,by kernel_rfl,by kernel_rfl⟩
theorem nt48:Tryz.f48.ntmps=24:=rfl
theorem rs48:Tryz.f48.results.toList=[Go.ResultVar.tmp 2]:=rfl
theorem fn49 {P} (h:PrgOk P):FnOk P 49 Tryz.f49:=⟨h.f49,by kernel_rfl,by kernel_rfl⟩
theorem nt49:Tryz.f49.ntmps=55:=rfl
theorem rs49:Tryz.f49.results.toList=[Go.ResultVar.tmp 2]:=rfl
theorem fn50 {P} (h:PrgOk P):FnOk P 50 Tryz.f50:=⟨h.f50,by kernel_rfl,by kernel_rfl⟩
theorem nt50:Tryz.f50.ntmps=23:=rfl
theorem rs50:Tryz.f50.results.toList=[Go.ResultVar.tmp 2]:=rfl
theorem fn51 {P} (h:PrgOk P):FnOk P 51 Tryz.f51:=⟨h.f51,by kernel_rfl,by kernel_rfl⟩
theorem nt51:Tryz.f51.ntmps=15:=rfl
theorem rs51:Tryz.f51.results.toList=[Go.ResultVar.cell 2 36]:=rfl
theorem fn52 {P} (h:PrgOk P):FnOk P 52 Tryz.f52:=⟨h.f52,by kernel_rfl,by kernel_rfl⟩
theorem nt52:Tryz.f52.ntmps=14:=rfl
theorem rs52:Tryz.f52.results.toList=[Go.ResultVar.cell 4 33]:=rfl
theorem fn53 {P} (h:PrgOk P):FnOk P 53 Tryz.f53:=⟨h.f53,by kernel_rfl,by kernel_rfl⟩
theorem nt53:Tryz.f53.ntmps=8:=rfl
theorem rs53:Tryz.f53.results.toList=[Go.ResultVar.cell 4 33]:=rfl
theorem fn54 {P} (h:PrgOk P):FnOk P 54 Tryz.f54:=⟨h.f54,by kernel_rfl,by kernel_rfl⟩
theorem nt54:Tryz.f54.ntmps=11:=rfl
theorem rs54:Tryz.f54.results.toList=[Go.ResultVar.cell 4 33]:=rfl
theorem fn55 {P} (h:PrgOk P):FnOk P 55 Tryz.f55:=⟨h.f55,by kernel_rfl,by kernel_rfl⟩
theorem nt55:Tryz.f55.ntmps=26:=rfl
theorem rs55:Tryz.f55.results.toList=[Go.ResultVar.cell 4 33]:=rfl
theorem fn56 {P} (h:PrgOk P):FnOk P 56 Tryz.f56:=⟨h.f56,by kernel_rfl,by kernel_rfl⟩
theorem nt56:Tryz.f56.ntmps=14:=rfl
theorem rs56:Tryz.f56.results.toList=[Go.ResultVar.cell 2 31]:=rfl
theorem fn57 {P} (h:PrgOk P):FnOk P 57 Tryz.f57:=⟨h.f57,by kernel_rfl,by kernel_rfl⟩
theorem nt57:Tryz.f57.ntmps=42:=rfl
theorem rs57:Tryz.f57.results.toList=[Go.ResultVar.cell 4 33]:=rfl
theorem fn58 {P} (h:PrgOk P):FnOk P 58 Tryz.f58:=⟨h.f58,by kernel_rfl,by kernel_rfl⟩
theorem nt58:Tryz.f58.ntmps=9:=rfl
theorem rs58:Tryz.f58.results.toList=[Go.ResultVar.cell 4 31]:=rfl
theorem fn59 {P} (h:PrgOk P):FnOk P 59 Tryz.f59:=⟨h.f59,by kernel_rfl,by kernel_rfl⟩
theorem nt59:Tryz.f59.ntmps=16:=rfl
theorem rs59:Tryz.f59.results.toList=[Go.ResultVar.cell 4 31]:=rfl
theorem fn60 {P} (h:PrgOk P):FnOk P 60 Tryz.f60:=⟨h.f60,by kernel_rfl,by kernel_rfl⟩
theorem nt60:Tryz.f60.ntmps=7:=rfl
theorem rs60:Tryz.f60.results.toList=[Go.ResultVar.cell 2 29]:=rfl
theorem fn61 {P} (h:PrgOk P):FnOk P 61 Tryz.f61:=⟨h.f61,by kernel_rfl,by kernel_rfl⟩
theorem nt61:Tryz.f61.ntmps=111:=rfl
theorem rs61:Tryz.f61.results.toList=[Go.ResultVar.cell 4 29]:=rfl
theorem fn62 {P} (h:PrgOk P):FnOk P 62 Tryz.f62:=⟨h.f62,by kernel_rfl,by kernel_rfl⟩
theorem nt62:Tryz.f62.ntmps=5:=rfl
theorem rs62:Tryz.f62.results.toList=[Go.ResultVar.cell 2 29]:=rfl
theorem fn63 {P} (h:PrgOk P):FnOk P 63 Tryz.f63:=⟨h.f63,by kernel_rfl,by kernel_rfl⟩
theorem nt63:Tryz.f63.ntmps=15:=rfl
theorem rs63:Tryz.f63.results.toList=[Go.ResultVar.cell 3 36]:=rfl
theorem fn64 {P} (h:PrgOk P):FnOk P 64 Tryz.f64:=⟨h.f64,by kernel_rfl,by kernel_rfl⟩
theorem nt64:Tryz.f64.ntmps=23:=rfl
theorem rs64:Tryz.f64.results.toList=[Go.ResultVar.cell 4 33]:=rfl
theorem fn65 {P} (h:PrgOk P):FnOk P 65 Tryz.f65:=⟨h.f65,by kernel_rfl,by kernel_rfl⟩
theorem nt65:Tryz.f65.ntmps=24:=rfl
theorem rs65:Tryz.f65.results.toList=[Go.ResultVar.tmp 4]:=rfl
theorem fn66 {P} (h:PrgOk P):FnOk P 66 Tryz.f66:=⟨h.f66,by kernel_rfl,by kernel_rfl⟩
theorem nt66:Tryz.f66.ntmps=16:=rfl
theorem rs66:Tryz.f66.results.toList=[Go.ResultVar.cell 4 43]:=rfl
theorem fn67 {P} (h:PrgOk P):FnOk P 67 Tryz.f67:=⟨h.f67,by kernel_rfl,by kernel_rfl⟩
theorem nt67:Tryz.f67.ntmps=26:=rfl
theorem rs67:Tryz.f67.results.toList=[Go.ResultVar.tmp 6]:=rfl
theorem fn68 {P} (h:PrgOk P):FnOk P 68 Tryz.f68:=⟨h.f68,by kernel_rfl,by kernel_rfl⟩
theorem nt68:Tryz.f68.ntmps=32:=rfl
theorem rs68:Tryz.f68.results.toList=[Go.ResultVar.cell 4 33]:=rfl
theorem fn69 {P} (h:PrgOk P):FnOk P 69 Tryz.f69:=⟨h.f69,by kernel_rfl,by kernel_rfl⟩
theorem nt69:Tryz.f69.ntmps=8:=rfl
theorem rs69:Tryz.f69.results.toList=[Go.ResultVar.cell 4 33]:=rfl
theorem fn70 {P} (h:PrgOk P):FnOk P 70 Tryz.f70:=⟨h.f70,by kernel_rfl,by kernel_rfl⟩
theorem nt70:Tryz.f70.ntmps=9:=rfl
theorem rs70:Tryz.f70.results.toList=[Go.ResultVar.cell 3 33]:=rfl
theorem fn71 {P} (h:PrgOk P):FnOk P 71 Tryz.f71:=⟨h.f71,by kernel_rfl,by kernel_rfl⟩
theorem nt71:Tryz.f71.ntmps=9:=rfl
theorem rs71:Tryz.f71.results.toList=[Go.ResultVar.cell 2 33]:=rfl
theorem fn72 {P} (h:PrgOk P):FnOk P 72 Tryz.f72:=⟨h.f72,by kernel_rfl,by kernel_rfl⟩
theorem nt72:Tryz.f72.ntmps=18:=rfl
theorem rs72:Tryz.f72.results.toList=[Go.ResultVar.tmp 4]:=rfl
theorem fn73 {P} (h:PrgOk P):FnOk P 73 Tryz.f73:=⟨h.f73,by kernel_rfl,by kernel_rfl⟩
theorem nt73:Tryz.f73.ntmps=27:=rfl
theorem rs73:Tryz.f73.results.toList=[Go.ResultVar.tmp 4]:=rfl
theorem fn74 {P} (h:PrgOk P):FnOk P 74 Tryz.f74:=⟨h.f74,by kernel_rfl,by kernel_rfl⟩
theorem nt74:Tryz.f74.ntmps=15:=rfl
theorem rs74:Tryz.f74.results.toList=[Go.ResultVar.cell 4 43]:=rfl
theorem fn75 {P} (h:PrgOk P):FnOk P 75 Tryz.f75:=⟨h.f75,by kernel_rfl,by kernel_rfl⟩
theorem nt75:Tryz.f75.ntmps=21:=rfl
theorem rs75:Tryz.f75.results.toList=[Go.ResultVar.cell 4 41]:=rfl
theorem fn76 {P} (h:PrgOk P):FnOk P 76 Tryz.f76:=⟨h.f76,by kernel_rfl,by kernel_rfl⟩
theorem nt76:Tryz.f76.ntmps=21:=rfl
theorem rs76:Tryz.f76.results.toList=[Go.ResultVar.cell 4 43]:=rfl
theorem fn77 {P} (h:PrgOk P):FnOk P 77 Tryz.f77:=⟨h.f77,by kernel_rfl,by kernel_rfl⟩
theorem nt77:Tryz.f77.ntmps=18:=rfl
theorem rs77:Tryz.f77.results.toList=[Go.ResultVar.cell 4 43]:=rfl
theorem fn78 {P} (h:PrgOk P):FnOk P 78 Tryz.f78:=⟨h.f78,by kernel_rfl,by kernel_rfl⟩
theorem nt78:Tryz.f78.ntmps=35:=rfl
theorem rs78:Tryz.f78.results.toList=[Go.ResultVar.cell 2 36,Go.ResultVar.tmp 3]:=rfl
theorem fn79 {P} (h:PrgOk P):FnOk P 79 Tryz.f79:=⟨h.f79,by kernel_rfl,by kernel_rfl⟩
theorem nt79:Tryz.f79.ntmps=36:=rfl
theorem rs79:Tryz.f79.results.toList=[Go.ResultVar.cell 2 43,Go.ResultVar.tmp 3]:=rfl
theorem fn80 {P} (h:PrgOk P):FnOk P 80 Tryz.f80:=⟨h.f80,by kernel_rfl,by kernel_rfl⟩
theorem nt80:Tryz.f80.ntmps=19:=rfl
theorem rs80:Tryz.f80.results.toList=[Go.ResultVar.tmp 2]:=rfl
theorem fn81 {P} (h:PrgOk P):FnOk P 81 Tryz.f81:=⟨h.f81,by kernel_rfl,by kernel_rfl⟩
theorem nt81:Tryz.f81.ntmps=19:=rfl
theorem rs81:Tryz.f81.results.toList=[Go.ResultVar.cell 4 33,Go.ResultVar.tmp 5]:=rfl
theorem fn82 {P} (h:PrgOk P):FnOk P 82 Tryz.f82:=⟨h.f82,by kernel_rfl,by kernel_rfl⟩
theorem nt82:Tryz.f82.ntmps=12:=rfl
theorem rs82:Tryz.f82.results.toList=[Go.ResultVar.cell 6 36]:=rfl
theorem fn83 {P} (h:PrgOk P):FnOk P 83 Tryz.f83:=⟨h.f83,by kernel_rfl,by kernel_rfl⟩
theorem nt83:Tryz.f83.ntmps=30:=rfl
theorem rs83:Tryz.f83.results.toList=[Go.ResultVar.cell 8 36]:=rfl
theorem fn84 {P} (h:PrgOk P):FnOk P 84 Tryz.f84:=⟨h.f84,by kernel_rfl,by kernel_rfl⟩
theorem nt84:Tryz.f84.ntmps=38:=rfl
theorem rs84:Tryz.f84.results.toList=[Go.ResultVar.cell 2 36]:=rfl
theorem fn85 {P} (h:PrgOk P):FnOk P 85 Tryz.f85:=⟨h.f85,by kernel_rfl,by kernel_rfl⟩
theorem nt85:Tryz.f85.ntmps=40:=rfl
theorem rs85:Tryz.f85.results.toList=[Go.ResultVar.cell 2 43]:=rfl
theorem fn86 {P} (h:PrgOk P):FnOk P 86 Tryz.f86:=⟨h.f86,by kernel_rfl,by kernel_rfl⟩
theorem nt86:Tryz.f86.ntmps=14:=rfl
theorem rs86:Tryz.f86.results.toList=[Go.ResultVar.cell 6 43]:=rfl
theorem fn87 {P} (h:PrgOk P):FnOk P 87 Tryz.f87:=⟨h.f87,by kernel_rfl,by kernel_rfl⟩
theorem nt87:Tryz.f87.ntmps=21:=rfl
theorem rs87:Tryz.f87.results.toList=[Go.ResultVar.cell 4 41]:=rfl
theorem fn88 {P} (h:PrgOk P):FnOk P 88 Tryz.f88:=⟨h.f88,by kernel_rfl,by kernel_rfl⟩
theorem nt88:Tryz.f88.ntmps=33:=rfl
theorem rs88:Tryz.f88.results.toList=[Go.ResultVar.cell 4 41]:=rfl
theorem fn89 {P} (h:PrgOk P):FnOk P 89 Tryz.f89:=⟨h.f89,by kernel_rfl,by kernel_rfl⟩
theorem nt89:Tryz.f89.ntmps=13:=rfl
theorem rs89:Tryz.f89.results.toList=[Go.ResultVar.cell 2 43]:=rfl
theorem fn90 {P} (h:PrgOk P):FnOk P 90 Tryz.f90:=⟨h.f90,by kernel_rfl,by kernel_rfl⟩
theorem nt90:Tryz.f90.ntmps=14:=rfl
theorem rs90:Tryz.f90.results.toList=[Go.ResultVar.cell 4 33]:=rfl
theorem fn91 {P} (h:PrgOk P):FnOk P 91 Tryz.f91:=⟨h.f91,by kernel_rfl,by kernel_rfl⟩
theorem nt91:Tryz.f91.ntmps=11:=rfl
theorem rs91:Tryz.f91.results.toList=[Go.ResultVar.tmp 2]:=rfl
theorem fn92 {P} (h:PrgOk P):FnOk P 92 Tryz.f92:=⟨h.f92,by kernel_rfl,by kernel_rfl⟩
theorem nt92:Tryz.f92.ntmps=68:=rfl
theorem rs92:Tryz.f92.results.toList=[Go.ResultVar.tmp 2]:=rfl
theorem fn93 {P} (h:PrgOk P):FnOk P 93 Tryz.f93:=⟨h.f93,by kernel_rfl,by kernel_rfl⟩
theorem nt93:Tryz.f93.ntmps=44:=rfl
theorem rs93:Tryz.f93.results.toList=[Go.ResultVar.cell 6 33]:=rfl
theorem fn94 {P} (h:PrgOk P):FnOk P 94 Tryz.f94:=⟨h.f94,by kernel_rfl,by kernel_rfl⟩
theorem nt94:Tryz.f94.ntmps=40:=rfl
theorem rs94:Tryz.f94.results.toList=[Go.ResultVar.cell 4 31]:=rfl
theorem fn95 {P} (h:PrgOk P):FnOk P 95 Tryz.f95:=⟨h.f95,by kernel_rfl,by kernel_rfl⟩
theorem nt95:Tryz.f95.ntmps=7:=rfl
theorem rs95:Tryz.f95.results.toList=[Go.ResultVar.tmp 2]:=rfl
theorem fn96 {P} (h:PrgOk P):FnOk P 96 Tryz.f96:=⟨h.f96,by kernel_rfl,by kernel_rfl⟩
theorem nt96:Tryz.f96.ntmps=5:=rfl
theorem rs96:Tryz.f96.results.toList=[Go.ResultVar.cell 2 29]:=rfl
theorem fn97 {P} (h:PrgOk P):FnOk P 97 Tryz.f97:=⟨h.f97,by kernel_rfl,by kernel_rfl⟩
theorem nt97:Tryz.f97.ntmps=24:=rfl
theorem rs97:Tryz.f97.results.toList=[Go.ResultVar.tmp 2]:=rfl
theorem fn98 {P} (h:PrgOk P):FnOk P 98 Tryz.f98:=⟨h.f98,by kernel_rfl,by kernel_rfl⟩
theorem nt98:Tryz.f98.ntmps=43:=rfl
theorem rs98:Tryz.f98.results.toList=[Go.ResultVar.cell 4 29]:=rfl
theorem fn99 {P} (h:PrgOk P):FnOk P 99 Tryz.f99:=⟨h.f99,by kernel_rfl,by kernel_rfl⟩
theorem nt99:Tryz.f99.ntmps=15:=rfl
theorem rs99:Tryz.f99.results.toList=[Go.ResultVar.cell 3 29]:=rfl
theorem fn100 {P} (h:PrgOk P):FnOk P 100 Tryz.f100:=⟨h.f100,by kernel_rfl,by kernel_rfl⟩
theorem nt100:Tryz.f100.ntmps=63:=rfl
theorem rs100:Tryz.f100.results.toList=[Go.ResultVar.cell 4 29,Go.ResultVar.cell 5 29,Go.ResultVar.tmp 6]:=rfl
theorem fn101 {P} (h:PrgOk P):FnOk P 101 Tryz.f101:=⟨h.f101,by kernel_rfl,by kernel_rfl⟩
theorem nt101:Tryz.f101.ntmps=13:=rfl
theorem rs101:Tryz.f101.results.toList=[Go.ResultVar.cell 4 31]:=rfl
theorem fn102 {P} (h:PrgOk P):FnOk P 102 Tryz.f102:=⟨h.f102,by kernel_rfl,by kernel_rfl⟩
theorem nt102:Tryz.f102.ntmps=66:=rfl
theorem rs102:Tryz.f102.results.toList=[Go.ResultVar.cell 4 29,Go.ResultVar.tmp 5]:=rfl
theorem fn103 {P} (h:PrgOk P):FnOk P 103 Tryz.f103:=⟨h.f103,by kernel_rfl,by kernel_rfl⟩
theorem nt103:Tryz.f103.ntmps=2:=rfl
theorem rs103:Tryz.f103.results.toList=[Go.ResultVar.cell 0 29]:=rfl
theorem fn104 {P} (h:PrgOk P):FnOk P 104 Tryz.f104:=⟨h.f104,by kernel_rfl,by kernel_rfl⟩
theorem nt104:Tryz.f104.ntmps=86:=rfl
theorem rs104:Tryz.f104.results.toList=[Go.ResultVar.cell 4 29]:=rfl
theorem nt105:Tryz.f105.ntmps=51:=rfl
theorem rs105:Tryz.f105.results.toList=[Go.ResultVar.tmp 4,Go.ResultVar.tmp 5]:=rfl
theorem fn106 {P} (h:PrgOk P):FnOk P 106 Tryz.f106:=⟨h.f106,by kernel_rfl,by kernel_rfl⟩
theorem nt106:Tryz.f106.ntmps=14:=rfl
theorem rs106:Tryz.f106.results.toList=[Go.ResultVar.tmp 2]:=rfl
theorem fn108 {P} (h:PrgOk P):FnOk P 108 Tryz.f108:=⟨h.f108,by kernel_rfl,by kernel_rfl⟩
theorem nt108:Tryz.f108.ntmps=33:=rfl
theorem rs108:Tryz.f108.results.toList=[Go.ResultVar.cell 2 29]:=rfl
theorem fn109 {P} (h:PrgOk P):FnOk P 109 Tryz.f109:=⟨h.f109,by kernel_rfl,by kernel_rfl⟩
theorem nt109:Tryz.f109.ntmps=9:=rfl
theorem rs109:Tryz.f109.results.toList=[Go.ResultVar.cell 4 31]:=rfl
theorem fn110 {P} (h:PrgOk P):FnOk P 110 Tryz.f110:=⟨h.f110,by kernel_rfl,by kernel_rfl⟩
theorem nt110:Tryz.f110.ntmps=9:=rfl
theorem rs110:Tryz.f110.results.toList=[Go.ResultVar.cell 2 31]:=rfl
theorem fn111 {P} (h:PrgOk P):FnOk P 111 Tryz.f111:=⟨h.f111,by kernel_rfl,by kernel_rfl⟩
theorem nt111:Tryz.f111.ntmps=28:=rfl
theorem rs111:Tryz.f111.results.toList=[Go.ResultVar.tmp 4]:=rfl
theorem fn112 {P} (h:PrgOk P):FnOk P 112 Tryz.f112:=⟨h.f112,by kernel_rfl,by kernel_rfl⟩
theorem nt112:Tryz.f112.ntmps=24:=rfl
theorem rs112:Tryz.f112.results.toList=[Go.ResultVar.cell 8 41]:=rfl
theorem fn113 {P} (h:PrgOk P):FnOk P 113 Tryz.f113:=⟨h.f113,by kernel_rfl,by kernel_rfl⟩
theorem nt113:Tryz.f113.ntmps=36:=rfl
theorem rs113:Tryz.f113.results.toList=[Go.ResultVar.cell 6 41]:=rfl
theorem fn114 {P} (h:PrgOk P):FnOk P 114 Tryz.f114:=⟨h.f114,by kernel_rfl,by kernel_rfl⟩
theorem nt114:Tryz.f114.ntmps=70:=rfl
theorem rs114:Tryz.f114.results.toList=[Go.ResultVar.tmp 4]:=rfl
theorem fn115 {P} (h:PrgOk P):FnOk P 115 Tryz.f115:=⟨h.f115,by kernel_rfl,by kernel_rfl⟩
theorem nt115:Tryz.f115.ntmps=80:=rfl
theorem rs115:Tryz.f115.results.toList=[Go.ResultVar.cell 2 33,Go.ResultVar.tmp 3]:=rfl
theorem fn116 {P} (h:PrgOk P):FnOk P 116 Tryz.f116:=⟨h.f116,by kernel_rfl,by kernel_rfl⟩
theorem nt116:Tryz.f116.ntmps=102:=rfl
theorem rs116:Tryz.f116.results.toList=[Go.ResultVar.cell 2 41,Go.ResultVar.tmp 3]:=rfl
theorem fn117 {P} (h:PrgOk P):FnOk P 117 Tryz.f117:=⟨h.f117,by kernel_rfl,by kernel_rfl⟩
theorem nt117:Tryz.f117.ntmps=16:=rfl
theorem rs117:Tryz.f117.results.toList=[Go.ResultVar.cell 2 41]:=rfl
theorem fn118 {P} (h:PrgOk P):FnOk P 118 Tryz.f118:=⟨h.f118,by kernel_rfl,by kernel_rfl⟩
theorem nt118:Tryz.f118.ntmps=29:=rfl
theorem rs118:Tryz.f118.results.toList=[Go.ResultVar.tmp 8,Go.ResultVar.tmp 9]:=rfl
theorem fn119 {P} (h:PrgOk P):FnOk P 119 Tryz.f119:=⟨h.f119,by kernel_rfl,by kernel_rfl⟩
theorem nt119:Tryz.f119.ntmps=17:=rfl
theorem rs119:Tryz.f119.results.toList=[Go.ResultVar.cell 2 41]:=rfl
theorem fn120 {P} (h:PrgOk P):FnOk P 120 Tryz.f120:=⟨h.f120,by kernel_rfl,by kernel_rfl⟩
theorem nt120:Tryz.f120.ntmps=62:=rfl
theorem rs120:Tryz.f120.results.toList=[Go.ResultVar.cell 2 36]:=rfl
theorem fn121 {P} (h:PrgOk P):FnOk P 121 Tryz.f121:=⟨h.f121,by kernel_rfl,by kernel_rfl⟩
theorem nt121:Tryz.f121.ntmps=49:=rfl
theorem rs121:Tryz.f121.results.toList=[Go.ResultVar.tmp 4]:=rfl
theorem nt122:Tryz.f122.ntmps=25:=rfl
theorem rs122:Tryz.f122.results.toList=[Go.ResultVar.tmp 2]:=rfl
theorem fn123 {P} (h:PrgOk P):FnOk P 123 Tryz.f123:=⟨h.f123,by kernel_rfl,by kernel_rfl⟩
theorem nt123:Tryz.f123.ntmps=28:=rfl
theorem rs123:Tryz.f123.results.toList=[Go.ResultVar.tmp 4]:=rfl
theorem fn124 {P} (h:PrgOk P):FnOk P 124 Tryz.f124:=⟨h.f124,by kernel_rfl,by kernel_rfl⟩
theorem nt124:Tryz.f124.ntmps=100:=rfl
theorem rs124:Tryz.f124.results.toList=[Go.ResultVar.cell 4 29,Go.ResultVar.cell 5 29]:=rfl
theorem fn126 {P} (h:PrgOk P):FnOk P 126 Tryz.f126:=⟨h.f126,by kernel_rfl,by kernel_rfl⟩
theorem nt126:Tryz.f126.ntmps=9:=rfl
theorem rs126:Tryz.f126.results.toList=[Go.ResultVar.cell 4 41]:=rfl
theorem fn127 {P} (h:PrgOk P):FnOk P 127 Tryz.f127:=⟨h.f127,by kernel_rfl,by kernel_rfl⟩
theorem nt127:Tryz.f127.ntmps=15:=rfl
theorem rs127:Tryz.f127.results.toList=[Go.ResultVar.tmp 2]:=rfl
theorem fn128 {P} (h:PrgOk P):FnOk P 128 Tryz.f128:=⟨h.f128,by kernel_rfl,by kernel_rfl⟩
theorem nt128:Tryz.f128.ntmps=19:=rfl
theorem rs128:Tryz.f128.results.toList=[Go.ResultVar.tmp 4]:=rfl
theorem fn129 {P} (h:PrgOk P):FnOk P 129 Tryz.f129:=⟨h.f129,by kernel_rfl,by kernel_rfl⟩
theorem nt129:Tryz.f129.ntmps=63:=rfl
theorem rs129:Tryz.f129.results.toList=[Go.ResultVar.tmp 4,Go.ResultVar.tmp 5]:=rfl
theorem fn130 {P} (h:PrgOk P):FnOk P 130 Tryz.f130:=⟨h.f130,by kernel_rfl,by kernel_rfl⟩
theorem nt130:Tryz.f130.ntmps=21:=rfl
theorem rs130:Tryz.f130.results.toList=[Go.ResultVar.tmp 2]:=rfl
theorem fn131 {P} (h:PrgOk P):FnOk P 131 Tryz.f131:=⟨h.f131,by kernel_rfl,by kernel_rfl⟩
theorem nt131:Tryz.f131.ntmps=13:=rfl
theorem rs131:Tryz.f131.results.toList=[Go.ResultVar.tmp 4,Go.ResultVar.tmp 5,Go.ResultVar.tmp 6]:=rfl
theorem fn132 {P} (h:PrgOk P):FnOk P 132 Tryz.f132:=⟨h.f132,by kernel_rfl,by kernel_rfl⟩
theorem nt132:Tryz.f132.ntmps=8:=rfl
theorem rs132:Tryz.f132.results.toList=[Go.ResultVar.tmp 4]:=rfl
theorem fn133 {P} (h:PrgOk P):FnOk P 133 Tryz.f133:=⟨h.f133,by kernel_rfl,by kernel_rfl⟩
theorem nt133:Tryz.f133.ntmps=20:=rfl
theorem rs133:Tryz.f133.results.toList=[Go.ResultVar.tmp 2]:=rfl
theorem fn134 {P} (h:PrgOk P):FnOk P 134 Tryz.f134:=⟨h.f134,by kernel_rfl,by kernel_rfl⟩
theorem nt134:Tryz.f134.ntmps=109:=rfl
theorem rs134:Tryz.f134.results.toList=[Go.ResultVar.cell 2 29,Go.ResultVar.tmp 3]:=rfl
theorem fn135 {P} (h:PrgOk P):FnOk P 135 Tryz.f135:=⟨h.f135,by kernel_rfl,by kernel_rfl⟩
theorem nt135:Tryz.f135.ntmps=33:=rfl
theorem rs135:Tryz.f135.results.toList=[Go.ResultVar.tmp 2]:=rfl
theorem fn136 {P} (h:PrgOk P):FnOk P 136 Tryz.f136:=⟨h.f136,by kernel_rfl,by kernel_rfl⟩
theorem nt136:Tryz.f136.ntmps=22:=rfl
theorem rs136:Tryz.f136.results.toList=[Go.ResultVar.tmp 2]:=rfl
theorem fn137 {P} (h:PrgOk P):FnOk P 137 Tryz.f137:=⟨h.f137,by kernel_rfl,by kernel_rfl⟩
theorem nt137:Tryz.f137.ntmps=22:=rfl
theorem rs137:Tryz.f137.results.toList=[Go.ResultVar.tmp 2]:=rfl
theorem fn138 {P} (h:PrgOk P):FnOk P 138 Tryz.f138:=⟨h.f138,by kernel_rfl,by kernel_rfl⟩
theorem nt138:Tryz.f138.ntmps=55:=rfl
theorem rs138:Tryz.f138.results.toList=[Go.ResultVar.tmp 4]:=rfl
theorem fn139 {P} (h:PrgOk P):FnOk P 139 Tryz.f139:=⟨h.f139,by kernel_rfl,by kernel_rfl⟩
theorem nt139:Tryz.f139.ntmps=41:=rfl
theorem rs139:Tryz.f139.results.toList=[Go.ResultVar.tmp 4]:=rfl
theorem fn140 {P} (h:PrgOk P):FnOk P 140 Tryz.f140:=⟨h.f140,by kernel_rfl,by kernel_rfl⟩
theorem nt140:Tryz.f140.ntmps=42:=rfl
theorem rs140:Tryz.f140.results.toList=[Go.ResultVar.tmp 4]:=rfl
theorem fn141 {P} (h:PrgOk P):FnOk P 141 Tryz.f141:=⟨h.f141,by kernel_rfl,by kernel_rfl⟩
theorem nt141:Tryz.f141.ntmps=5:=rfl
theorem rs141:Tryz.f141.results.toList=[Go.ResultVar.cell 2 31]:=rfl
theorem fn142 {P} (h:PrgOk P):FnOk P 142 Tryz.f142:=⟨h.f142,by kernel_rfl,by kernel_rfl⟩
theorem nt142:Tryz.f142.ntmps=17:=rfl
theorem rs142:Tryz.f142.results.toList=[Go.ResultVar.tmp 2]:=rfl
theorem fn143 {P} (h:PrgOk P):FnOk P 143 Tryz.f143:=⟨h.f143,by kernel_rfl,by kernel_rfl⟩
theorem nt143:Tryz.f143.ntmps=9:=rfl
theorem rs143:Tryz.f143.results.toList=[Go.ResultVar.cell 3 33]:=rfl
theorem fn144 {P} (h:PrgOk P):FnOk P 144 Tryz.f144:=⟨h.f144,by kernel_rfl,by kernel_rfl⟩
theorem nt144:Tryz.f144.ntmps=5:=rfl
theorem rs144:Tryz.f144.results.toList=[Go.ResultVar.cell 2 33]:=rfl
theorem fn145 {P} (h:PrgOk P):FnOk P 145 Tryz.f145:=⟨h.f145,by kernel_rfl,by kernel_rfl⟩
theorem nt145:Tryz.f145.ntmps=135:=rfl
theorem rs145:Tryz.f145.results.toList=[Go.ResultVar.tmp 6,Go.ResultVar.tmp 7]:=rfl
theorem nt146:Tryz.f146.ntmps=6:=rfl
theorem rs146:Tryz.f146.results.toList=[Go.ResultVar.tmp 2]:=rfl
theorem fn147 {P} (h:PrgOk P):FnOk P 147 Tryz.f147:=⟨h.f147,by kernel_rfl,by kernel_rfl⟩
theorem nt147:Tryz.f147.ntmps=57:=rfl
theorem rs147:Tryz.f147.results.toList=[Go.ResultVar.tmp 6]:=rfl
theorem fn148 {P} (h:PrgOk P):FnOk P 148 Tryz.f148:=⟨h.f148,by kernel_rfl,by kernel_rfl⟩
theorem nt148:Tryz.f148.ntmps=67:=rfl
theorem rs148:Tryz.f148.results.toList=[Go.ResultVar.tmp 10]:=rfl
theorem fn149 {P} (h:PrgOk P):FnOk P 149 Tryz.f149:=⟨h.f149,by kernel_rfl,by kernel_rfl⟩
theorem nt149:Tryz.f149.ntmps=56:=rfl
theorem rs149:Tryz.f149.results.toList=[Go.ResultVar.tmp 6]:=rfl
theorem fn150 {P} (h:PrgOk P):FnOk P 150 Tryz.f150:=⟨h.f150,by kernel_rfl,by kernel_rfl⟩
theorem nt150:Tryz.f150.ntmps=34:=rfl
theorem rs150:Tryz.f150.results.toList=[]:=rfl
theorem fn151 {P} (h:PrgOk P):FnOk P 151 Tryz.f151:=⟨h.f151,by kernel_rfl,by kernel_rfl⟩
theorem nt151:Tryz.f151.ntmps=50:=rfl
theorem rs151:Tryz.f151.results.toList=[Go.ResultVar.cell 4 29]:=rfl
theorem fn152 {P} (h:PrgOk P):FnOk P 152 Tryz.f152:=⟨h.f152,by kernel_rfl,by kernel_rfl⟩
theorem nt152:Tryz.f152.ntmps=23:=rfl
theorem rs152:Tryz.f152.results.toList=[Go.ResultVar.tmp 4,Go.ResultVar.tmp 5,Go.ResultVar.tmp 6]:=rfl
theorem fn153 {P} (h:PrgOk P):FnOk P 153 Tryz.f153:=⟨h.f153,by kernel_rfl,by kernel_rfl⟩
theorem nt153:Tryz.f153.ntmps=13:=rfl
theorem rs153:Tryz.f153.results.toList=[Go.ResultVar.tmp 4]:=rfl
theorem fn155 {P} (h:PrgOk P):FnOk P 155 Tryz.f155:=⟨h.f155,by kernel_rfl,by kernel_rfl⟩
theorem nt155:Tryz.f155.ntmps=17:=rfl
theorem rs155:Tryz.f155.results.toList=[Go.ResultVar.tmp 4]:=rfl
theorem fn156 {P} (h:PrgOk P):FnOk P 156 Tryz.f156:=⟨h.f156,by kernel_rfl,by kernel_rfl⟩
theorem nt156:Tryz.f156.ntmps=12:=rfl
theorem rs156:Tryz.f156.results.toList=[Go.ResultVar.tmp 2]:=rfl
theorem fn157 {P} (h:PrgOk P):FnOk P 157 Tryz.f157:=⟨h.f157,by kernel_rfl,by kernel_rfl⟩
theorem nt157:Tryz.f157.ntmps=51:=rfl
theorem rs157:Tryz.f157.results.toList=[Go.ResultVar.tmp 2]:=rfl
theorem fn158 {P} (h:PrgOk P):FnOk P 158 Tryz.f158:=⟨h.f158,by kernel_rfl,by kernel_rfl⟩
theorem nt158:Tryz.f158.ntmps=13:=rfl
theorem rs158:Tryz.f158.results.toList=[]:=rfl
theorem fn159 {P} (h:PrgOk P):FnOk P 159 Tryz.f159:=⟨h.f159,by kernel_rfl,by kernel_rfl⟩
theorem nt159:Tryz.f159.ntmps=11:=rfl
theorem rs159:Tryz.f159.results.toList=[]:=rfl
theorem fn160 {P} (h:PrgOk P):FnOk P 160 Tryz.f160:=⟨h.f160,by kernel_rfl,by kernel_rfl⟩
theorem nt160:Tryz.f160.ntmps=38:=rfl
theorem rs160:Tryz.f160.results.toList=[]:=rfl
theorem fn162 {P} (h:PrgOk P):FnOk P 162 Tryz.f162:=⟨h.f162,by kernel_rfl,by kernel_rfl⟩
theorem nt162:Tryz.f162.ntmps=18:=rfl
theorem rs162:Tryz.f162.results.toList=[Go.ResultVar.tmp 4]:=rfl
theorem fn170 {P} (h:PrgOk P):FnOk P 170 Tryz.f170:=⟨h.f170,by kernel_rfl,by kernel_rfl⟩
theorem nt170:Tryz.f170.ntmps=25:=rfl
theorem rs170:Tryz.f170.results.toList=[Go.ResultVar.tmp 2,Go.ResultVar.tmp 3]:=rfl
attribute [go_sem] nt3 rs3 nt4 rs4 nt5 rs5 nt6 rs6 nt7 rs7 nt8 rs8 nt9 rs9 nt10 rs10 nt11 rs11 nt12 rs12 nt13 rs13 nt14 rs14 nt15 rs15 nt16 rs16 nt17 rs17 nt18 rs18 nt19 rs19 nt20 rs20 nt21 rs21 nt22 rs22 nt23 rs23 nt24 rs24 nt25 rs25 nt26 rs26 nt27 rs27 nt28 rs28 nt29 rs29 nt30 rs30 nt31 rs31 nt32 rs32 nt33 rs33 nt34 rs34 nt35 rs35 nt36 rs36 nt37 rs37 nt38 rs38 nt39 rs39 nt40 rs40 nt41 rs41 nt42 rs42 nt43 rs43 nt44 rs44 nt45 rs45 nt46 rs46 nt47 rs47 nt48 rs48 nt49 rs49 nt50 rs50 nt51 rs51 nt52 rs52 nt53 rs53 nt54 rs54 nt55 rs55 nt56 rs56 nt57 rs57 nt58 rs58 nt59 rs59 nt60 rs60 nt61 rs61 nt62 rs62 nt63 rs63 nt64 rs64 nt65 rs65 nt66 rs66 nt67 rs67 nt68 rs68 nt69 rs69 nt70 rs70 nt71 rs71 nt72 rs72 nt73 rs73 nt74 rs74 nt75 rs75 nt76 rs76 nt77 rs77 nt78 rs78 nt79 rs79 nt80 rs80 nt81 rs81 nt82 rs82 nt83 rs83 nt84 rs84 nt85 rs85 nt86 rs86 nt87 rs87 nt88 rs88 nt89 rs89 nt90 rs90 nt91 rs91 nt92 rs92 nt93 rs93 nt94 rs94 nt95 rs95 nt96 rs96 nt97 rs97 nt98 rs98 nt99 rs99 nt100 rs100 nt101 rs101 nt102 rs102 nt103 rs103 nt104 rs104 nt105 rs105 nt106 rs106 nt108 rs108 nt109 rs109 nt110 rs110 nt111 rs111 nt112 rs112 nt113 rs113 nt114 rs114 nt115 rs115 nt116 rs116 nt117 rs117 nt118 rs118 nt119 rs119 nt120 rs120 nt121 rs121 nt122 rs122 nt123 rs123 nt124 rs124 nt126 rs126 nt127 rs127 nt128 rs128 nt129 rs129 nt130 rs130 nt131 rs131 nt132 rs132 nt133 rs133 nt134 rs134 nt135 rs135 nt136 rs136 nt137 rs137 nt138 rs138 nt139 rs139 nt140 rs140 nt141 rs141 nt142 rs142 nt143 rs143 nt144 rs144 nt145 rs145 nt146 rs146 nt147 rs147 nt148 rs148 nt149 rs149 nt150 rs150 nt151 rs151 nt152 rs152 nt153 rs153 nt155 rs155 nt156 rs156 nt157 rs157 nt158 rs158 nt159 rs159 nt160 rs160 nt162 rs162 nt170 rs170
end Go.Proofs.YtapddfjimhohcaaGreatDoor.AM
/- The library's functions that the program calls; the program has all that was asked of it. -/
namespace Go.Proofs.YtapddfjimhohcaaGreatDoor.AM
set_option linter.all false
set_option autoImplicit true
set_option relaxedAutoImplicit true
open Go Go.Proofs Go.Shelf
set_option maxRecDepth 100000
def shl160_ren:Go.Shelf.Ren:=⟨fun|160=>154|232=>164|231=>163|227=>165|234=>167|233=>166|236=>169|235=>168|228=>175|271=>178|151=>177|197=>176|120=>183|152=>182|260=>181|137=>184|119=>185|224=>173|225=>172|217=>171|266=>179|n=>n,fun|9=>9|4=>4|3=>3|5=>5|117=>182|116=>181|0=>0|124=>185|21=>21|105=>192|46=>147|119=>198|139=>201|138=>200|n=>n,fun|3=>3|4=>4|n=>n⟩
theorem shl160:Go.Proofs.Lays.n160 Tryz.prog shl160_ren:={
 mixed:=by kernel_rfl
 f119:=Tryz.func185.trans (congrArg some (by kernel_rfl))
 f120:=Tryz.func183.trans (congrArg some (by kernel_rfl))
 f137:=Tryz.func184.trans (congrArg some (by kernel_rfl))
 f151:=Tryz.func177.trans (congrArg some (by kernel_rfl))
 f152:=Tryz.func182.trans (congrArg some (by kernel_rfl))
 f160:=Tryz.func154.trans (congrArg some (by kernel_rfl))
 f197:=Tryz.func176.trans (congrArg some (by kernel_rfl))
 f217:=Tryz.func171.trans (congrArg some (by kernel_rfl))
 f224:=Tryz.func173.trans (congrArg some (by kernel_rfl))
 f225:=Tryz.func172.trans (congrArg some (by kernel_rfl))
 f227:=Tryz.func165.trans (congrArg some (by kernel_rfl))
 f228:=Tryz.func175.trans (congrArg some (by kernel_rfl))
 f231:=Tryz.func163.trans (congrArg some (by kernel_rfl))
 f232:=Tryz.func164.trans (congrArg some (by kernel_rfl))
 f233:=Tryz.func166.trans (congrArg some (by kernel_rfl))
 f234:=Tryz.func167.trans (congrArg some (by kernel_rfl))
 f235:=Tryz.func168.trans (congrArg some (by kernel_rfl))
 f236:=Tryz.func169.trans (congrArg some (by kernel_rfl))
 f260:=Tryz.func181.trans (congrArg some (by kernel_rfl))
 f266:=Tryz.func179.trans (congrArg some (by kernel_rfl))
 f271:=Tryz.func178.trans (congrArg some (by kernel_rfl))
 t0:=Tryz.underlying0
 a0:=Tryz.isAgg0
 z0:=Tryz.sizeOf0
 v0:=Tryz.zeroValue0
 t3:=Tryz.underlying3
 a3:=Tryz.isAgg3
 z3:=Tryz.sizeOf3
 v3:=Tryz.zeroValue3
 t4:=Tryz.underlying4
 a4:=Tryz.isAgg4
 z4:=Tryz.sizeOf4
 v4:=Tryz.zeroValue4
 t5:=Tryz.underlying5
 a5:=Tryz.isAgg5
 z5:=Tryz.sizeOf5
 v5:=Tryz.zeroValue5
 t9:=Tryz.underlying9
 a9:=Tryz.isAgg9
 z9:=Tryz.sizeOf9
 v9:=Tryz.zeroValue9
 t21:=Tryz.underlying21
 a21:=Tryz.isAgg21
 z21:=Tryz.sizeOf21
 v21:=Tryz.zeroValue21
 t46:=Tryz.underlying147
 a46:=Tryz.isAgg147
 z46:=Tryz.sizeOf147
 v46:=Tryz.zeroValue147
 t105:=Tryz.underlying192
 a105:=Tryz.isAgg192
 z105:=Tryz.sizeOf192
 v105:=Tryz.zeroValue192
 t116:=Tryz.underlying181
 a116:=Tryz.isAgg181
 z116:=Tryz.sizeOf181
 t117:=Tryz.underlying182
 a117:=Tryz.isAgg182
 z117:=Tryz.sizeOf182
 v117:=Tryz.zeroValue182
 t119:=Tryz.underlying198
 a119:=Tryz.isAgg198
 z119:=Tryz.sizeOf198
 t124:=Tryz.underlying185
 a124:=Tryz.isAgg185
 z124:=Tryz.sizeOf185
 v124:=Tryz.zeroValue185
 t138:=Tryz.underlying200
 a138:=Tryz.isAgg200
 z138:=Tryz.sizeOf200
 v138:=Tryz.zeroValue200
 t139:=Tryz.underlying201
 a139:=Tryz.isAgg201
 z139:=Tryz.sizeOf201
 v139:=Tryz.zeroValue201
 g3:=by kernel_rfl
 g4:=by kernel_rfl }
def shl134_ren:Go.Shelf.Ren:=⟨fun|134=>146|129=>122|n=>n,fun|53=>26|3=>3|4=>4|46=>147|5=>5|9=>9|n=>n,fun|n=>n⟩
theorem shl134:Go.Proofs.Lays.n134 Tryz.prog shl134_ren:={
 mixed:=by kernel_rfl
 f129:=Tryz.func122.trans (congrArg some (by kernel_rfl))
 f134:=Tryz.func146.trans (congrArg some (by kernel_rfl))
 t3:=Tryz.underlying3
 a3:=Tryz.isAgg3
 z3:=Tryz.sizeOf3
 v3:=Tryz.zeroValue3
 t4:=Tryz.underlying4
 a4:=Tryz.isAgg4
 z4:=Tryz.sizeOf4
 v4:=Tryz.zeroValue4
 t5:=Tryz.underlying5
 a5:=Tryz.isAgg5
 z5:=Tryz.sizeOf5
 v5:=Tryz.zeroValue5
 t9:=Tryz.underlying9
 a9:=Tryz.isAgg9
 z9:=Tryz.sizeOf9
 v9:=Tryz.zeroValue9
 t46:=Tryz.underlying147
 a46:=Tryz.isAgg147
 z46:=Tryz.sizeOf147
 v46:=Tryz.zeroValue147
 t53:=Tryz.underlying26
 a53:=Tryz.isAgg26
 z53:=Tryz.sizeOf26
 v53:=Tryz.zeroValue26 }
theorem sh_LeadingZeros64 (x:Int) (w:World) (h0:0≤x) (h1:x≤18446744073709551615) :
 Calls Tryz.prog 146 #[.int .u64 x] w fun e w'=>e = .returned (.int .i64 (64-(Lib.bitLen x.toNat:Int)))∧w'=w:=Any.bits_LeadingZeros64 shl134 x w h0 h1
def shl129_ren:Go.Shelf.Ren:=⟨fun|129=>122|n=>n,fun|53=>26|3=>3|4=>4|46=>147|5=>5|9=>9|n=>n,fun|n=>n⟩
theorem shl129:Go.Proofs.Lays.n129 Tryz.prog shl129_ren:={
 mixed:=by kernel_rfl
 f129:=Tryz.func122.trans (congrArg some (by kernel_rfl))
 t3:=Tryz.underlying3
 a3:=Tryz.isAgg3
 z3:=Tryz.sizeOf3
 v3:=Tryz.zeroValue3
 t4:=Tryz.underlying4
 a4:=Tryz.isAgg4
 z4:=Tryz.sizeOf4
 v4:=Tryz.zeroValue4
 t5:=Tryz.underlying5
 a5:=Tryz.isAgg5
 z5:=Tryz.sizeOf5
 v5:=Tryz.zeroValue5
 t9:=Tryz.underlying9
 a9:=Tryz.isAgg9
 z9:=Tryz.sizeOf9
 v9:=Tryz.zeroValue9
 t46:=Tryz.underlying147
 a46:=Tryz.isAgg147
 z46:=Tryz.sizeOf147
 v46:=Tryz.zeroValue147
 t53:=Tryz.underlying26
 a53:=Tryz.isAgg26
 z53:=Tryz.sizeOf26
 v53:=Tryz.zeroValue26 }
theorem sh_Len64 (x:Int) (w:World) (h0:0≤x) (h1:x≤18446744073709551615) :
 Calls Tryz.prog 122 #[.int .u64 x] w fun e w'=>e = .returned (.int .i64 (Lib.bitLen x.toNat))∧w'=w:=Any.bits_Len64 shl129 x w h0 h1
def shl219_ren:Go.Shelf.Ren:=⟨fun|219=>161|217=>171|225=>172|224=>173|267=>174|266=>179|314=>180|n=>n,fun|9=>9|3=>3|4=>4|5=>5|46=>147|146=>195|51=>151|n=>n,fun|1=>2|n=>n⟩
theorem shl219:Go.Proofs.Lays.n219 Tryz.prog shl219_ren:={
 mixed:=by kernel_rfl
 f217:=Tryz.func171.trans (congrArg some (by kernel_rfl))
 f219:=Tryz.func161.trans (congrArg some (by kernel_rfl))
 f224:=Tryz.func173.trans (congrArg some (by kernel_rfl))
 f225:=Tryz.func172.trans (congrArg some (by kernel_rfl))
 f266:=Tryz.func179.trans (congrArg some (by kernel_rfl))
 f267:=Tryz.func174.trans (congrArg some (by kernel_rfl))
 f314:=Tryz.func180.trans (congrArg some (by kernel_rfl))
 t3:=Tryz.underlying3
 a3:=Tryz.isAgg3
 z3:=Tryz.sizeOf3
 v3:=Tryz.zeroValue3
 t4:=Tryz.underlying4
 a4:=Tryz.isAgg4
 z4:=Tryz.sizeOf4
 v4:=Tryz.zeroValue4
 t5:=Tryz.underlying5
 a5:=Tryz.isAgg5
 z5:=Tryz.sizeOf5
 v5:=Tryz.zeroValue5
 t9:=Tryz.underlying9
 a9:=Tryz.isAgg9
 z9:=Tryz.sizeOf9
 v9:=Tryz.zeroValue9
 t46:=Tryz.underlying147
 a46:=Tryz.isAgg147
 z46:=Tryz.sizeOf147
 v46:=Tryz.zeroValue147
 t51:=Tryz.underlying151
 a51:=Tryz.isAgg151
 z51:=Tryz.sizeOf151
 v51:=Tryz.zeroValue151
 t146:=Tryz.underlying195
 a146:=Tryz.isAgg195
 z146:=Tryz.sizeOf195
 v146:=Tryz.zeroValue195
 g1:=by kernel_rfl }
open Go.RowKit Go.Lib in
theorem sh_Index1 (s:ByteArray) (c:UInt8) (w:World) :
 Calls Tryz.prog 161 #[.string s,.string ⟨#[c]⟩] w fun e w'=>e = .returned (.int .i64 (Lib.indexByte s.data.toList c))∧w'=w:=Any.stringslite_Index_one shl219 s c w
def shl264_ren:Go.Shelf.Ren:=⟨fun|264=>105|n=>n,fun|53=>26|46=>147|n=>n,fun|n=>n⟩
theorem shl264:Go.Proofs.Lays.n264 Tryz.prog shl264_ren:={
 mixed:=by kernel_rfl
 f264:=Tryz.func105.trans (congrArg some (by kernel_rfl))
 t46:=Tryz.underlying147
 a46:=Tryz.isAgg147
 z46:=Tryz.sizeOf147
 v46:=Tryz.zeroValue147
 t53:=Tryz.underlying26
 a53:=Tryz.isAgg26
 z53:=Tryz.sizeOf26
 v53:=Tryz.zeroValue26 }
open Go.RowKit Go.Lib in
theorem sh_Mul64 (x y:Nat) (hx:x<18446744073709551616) (hy:y<18446744073709551616) (w:World) :
 Calls Tryz.prog 105 #[.int .u64 x,.int .u64 y] w fun e w'=>e = .returned (.tuple #[.int .u64 ((x*y / 18446744073709551616:Nat):Int),.int .u64 ((x*y % 18446744073709551616:Nat):Int)])∧w'=w:=Any.bits_Mul64 shl264 x y hx hy w
theorem enter_of {P:Program} {f fn c} (hf:P.funcs[f]? = some fn) (hb:fn.body=some c) (hn:(fn.name == "runtime.NumGoroutine")=false) {vs w R} (h:Calls P f vs w fun e w'=>∃ v,e = .returned v∧R v w'):Invk P f vs w R:=by
 unfold Invk; rw [callFunc_enter hf hb hn]; exact h
theorem blen_eq (x:Nat) (h:x<18446744073709551616):Lib.bitLen x=blen x:=by
 unfold blen
 split
 · rename_i e; subst e; exact Lib.bitLenAux_zero _
 · rename_i e
   obtain ⟨h1,h2,h3⟩:=Lib.bitLenAux_bounds 64 x (by simpa using h) e
   have k1:=Nat.log2_self_le e
   have k2:x<2^(x.log2+1):=Nat.lt_log2_self
   have a1:Lib.bitLen x-1<x.log2+1:=(Nat.pow_lt_pow_iff_right (by decide:1<2)).1 (Nat.lt_of_le_of_lt h2 k2)
   have a2:x.log2<Lib.bitLen x:=(Nat.pow_lt_pow_iff_right (by decide:1<2)).1 (Nat.lt_of_le_of_lt k1 h3)
   unfold Lib.bitLen at *
   omega
theorem blen_le (x:Nat) (h:x<18446744073709551616):blen x≤64:=by
 unfold blen; split
 · omega
 · rename_i e
   have:x.log2<64:=(Nat.log2_lt e).2 (by simpa using h)
   omega
theorem Below.rfl' {w:World}:RowKit.Below w.heap.size w w:=RowKit.Below.refl _ _
theorem sh_len64 (x:Nat) (h:x<18446744073709551616):CSpec Tryz.prog 122 [.int .u64 (x:Int)] (.int .i64 (blen x:Nat)):=by
 intro X φ w vs _ hr
 obtain ⟨v,vs',rfl,h1,h2⟩:=hr.uncons rfl
 obtain rfl:=h1.int_inv
 obtain rfl:=h2.nil_of
 refine enter_of Tryz.func122 rfl rfl ((sh_Len64 x w (by omega) (by omega)).mono fun e w' he=>⟨_,he.1,?_⟩)
 obtain ⟨_,rfl⟩:=he
 rw [Int.toNat_natCast,blen_eq x h]
 exact ⟨.int _ _ .nil,Below.rfl'⟩
theorem sh_lz64 (x:Nat) (h:x<18446744073709551616):CSpec Tryz.prog 146 [.int .u64 (x:Int)] (.int .i64 ((64-blen x:Nat):Int)):=by
 intro X φ w vs _ hr
 obtain ⟨v,vs',rfl,h1,h2⟩:=hr.uncons rfl
 obtain rfl:=h1.int_inv
 obtain rfl:=h2.nil_of
 refine enter_of Tryz.func146 rfl rfl ((sh_LeadingZeros64 x w (by omega) (by omega)).mono fun e w' he=>⟨_,he.1,?_⟩)
 obtain ⟨_,rfl⟩:=he
 have:=blen_le x h
 rw [Int.toNat_natCast,blen_eq x h,show (64:Int)-(blen x:Int)=((64-blen x:Nat):Int) by omega]
 exact ⟨.int _ _ .nil,Below.rfl'⟩
theorem sh_mul64 (x y:Nat) (hx:x<18446744073709551616) (hy:y<18446744073709551616):CSpec Tryz.prog 105 [.int .u64 (x:Int),.int .u64 (y:Int)] (.tup [.int .u64 ((mulh x y:Nat):Int),.int .u64 ((mull x y:Nat):Int)]):=by
 rw [mulh_eq,mull_eq]
 intro X φ w vs _ hr
 obtain ⟨v,vs',rfl,h1,h2⟩:=hr.uncons rfl
 obtain rfl:=h1.int_inv
 obtain ⟨v,vs',rfl,h1,h3⟩:=h2.uncons rfl
 obtain rfl:=h1.int_inv
 obtain rfl:=h3.nil_of
 refine enter_of Tryz.func105 rfl rfl ((sh_Mul64 x y hx hy w).mono fun e w' he=>⟨_,he.1,?_⟩)
 obtain ⟨_,rfl⟩:=he
 exact ⟨.tup (.int _ _ (.int _ _ .nil)) .nil,Below.rfl'⟩
theorem sh_add64 (x y c:Nat) (_:x<18446744073709551616) (hc:c≤1):CSpec Tryz.prog 107 [.int .u64 (x:Int),.int .u64 (y:Int),.int .u64 (c:Int)] (.tup [.int .u64 ((addl x y c:Nat):Int),.int .u64 ((addh x y c:Nat):Int)]):=by
 rw [addl_eq,addh_eq]
 intro X φ w vs _ hr
 obtain ⟨v,vs',rfl,h1,h2⟩:=hr.uncons rfl
 obtain rfl:=h1.int_inv
 obtain ⟨v,vs',rfl,h1,h3⟩:=h2.uncons rfl
 obtain rfl:=h1.int_inv
 obtain ⟨v,vs',rfl,h1,h4⟩:=h3.uncons rfl
 obtain rfl:=h1.int_inv
 obtain rfl:=h4.nil_of
 unfold Invk
 rw [run_callFunc_extern Tryz.func107 (by kernel_rfl) (by kernel_rfl) (by kernel_rfl) (e:=add64Entry) (by kernel_rfl),run_add64 x y c (by omega) (by omega) (by omega) (by omega)]
 simp only [Result.andThen]
 rw [show ((x:Int)+y+c) % 18446744073709551616=(((x+y+c) % 18446744073709551616:Nat):Int) by omega,show ((x:Int)+y+c) / 18446744073709551616=(((x+y+c) / 18446744073709551616:Nat):Int) by omega]
 exact ⟨.tup (.int _ _ (.int _ _ .nil)) .nil,Below.rfl'⟩
theorem sh_sub64 (x y c:Nat) (_:x<18446744073709551616) (hc:c≤1):CSpec Tryz.prog 125 [.int .u64 (x:Int),.int .u64 (y:Int),.int .u64 (c:Int)] (.tup [.int .u64 ((subd x y c:Nat):Int),.int .u64 ((bor x y c:Nat):Int)]):=by
 intro X φ w vs _ hr
 obtain ⟨v,vs',rfl,h1,h2⟩:=hr.uncons rfl
 obtain rfl:=h1.int_inv
 obtain ⟨v,vs',rfl,h1,h3⟩:=h2.uncons rfl
 obtain rfl:=h1.int_inv
 obtain ⟨v,vs',rfl,h1,h4⟩:=h3.uncons rfl
 obtain rfl:=h1.int_inv
 obtain rfl:=h4.nil_of
 unfold Invk
 rw [run_callFunc_extern Tryz.func125 (by kernel_rfl) (by kernel_rfl) (by kernel_rfl) (e:=(Extern.find Tryz.f125).getD fun _=>pure (.bool true)) (by kernel_rfl)]
 have key:(((Extern.find Tryz.f125).getD fun _=>pure (.bool true)) #[.int .u64 x,.int .u64 y,.int .u64 c]).run Tryz.prog w =
  .ok (.tuple #[.int .u64 (((x+18446744073709551616-y-c) % 18446744073709551616:Nat):Int),.int .u64 ((if x<y+c then 1 else 0:Nat):Int)]) w:=by
  have:c=0∨c=1:=by omega
  rcases this with rfl|rfl
  · refine of_eq_true (eq_true ?_); rfl
  · rfl
 rw [show ([Value.int .u64 (x:Int),Value.int .u64 (y:Int),Value.int .u64 (c:Int)].toArray)=#[.int .u64 (x:Int),.int .u64 (y:Int),.int .u64 (c:Int)] from rfl,key]
 rw [subd_eq,bor_eq]
 exact ⟨.tup (.int _ _ (.int _ _ .nil)) .nil,Below.rfl'⟩
theorem ixL_index (c:UInt8):∀ l:List UInt8,Lib.indexByte l c=ixL c.toNat (l.map UInt8.toNat)
 | []=>rfl
 | x::l=>by
   have h:=ixL_index c l
   unfold Lib.indexByte
   rw [List.map_cons]; unfold ixL
   rw [h]
   by_cases hx:x=c
   · subst hx; simp
   · have:¬ x.toNat=c.toNat:=fun e=>hx (UInt8.toNat_inj.1 e)
     simp [hx,this]
theorem sh_ixb (s:ByteArray) (d:UInt8):CSpec Tryz.prog 161 [.str s,.str ⟨#[d]⟩] (.int .i64 (ixL d.toNat (bz s))):=by
 intro X φ w vs _ hr
 obtain ⟨v,vs',rfl,h1,h2⟩:=hr.uncons rfl
 obtain rfl:=h1.str_inv
 obtain ⟨v,vs',rfl,h1,h3⟩:=h2.uncons rfl
 obtain rfl:=h1.str_inv
 obtain rfl:=h3.nil_of
 refine enter_of Tryz.func161 rfl rfl ((sh_Index1 s d w).mono fun e w' he=>⟨_,he.1,?_⟩)
 obtain ⟨_,rfl⟩:=he
 rw [ixL_index]
 exact ⟨.int _ _ .nil,Below.rfl'⟩
theorem dw_congr {p q:UInt8→Bool} (h:∀ b,p b=q b) (l:List UInt8):l.dropWhile p=l.dropWhile q:=by rw [show p=q from funext h]
theorem has_dg (b:UInt8):[48,49,50,51,52,53,54,55,56,57].contains b=isDg b:=by
 unfold isDg
 have e:∀ n:UInt8,(b == n)=decide (b.toNat=n.toNat):=fun n=>by
  rw [Bool.eq_iff_iff]; simp only [beq_iff_eq,decide_eq_true_eq]; exact UInt8.toNat_inj.symm
 rw [Bool.eq_iff_iff]
 simp only [List.contains_cons,e,Bool.or_eq_true,decide_eq_true_eq,Bool.and_eq_true,List.contains_nil,Bool.false_eq_true,or_false]
 show (b.toNat=48∨b.toNat=49∨b.toNat=50∨b.toNat=51∨b.toNat=52∨b.toNat=53∨b.toNat=54∨b.toNat=55∨b.toNat=56∨b.toNat=57) ↔ _
 omega
theorem sh_trm (s:ByteArray) (h:s.size≤9223372036854775807):CSpec Tryz.prog 154 [.str s,.str ⟨#[48,49,50,51,52,53,54,55,56,57]⟩] (.str (trD s)):=by
 intro X φ w vs _ hr
 obtain ⟨v,vs',rfl,h1,h2⟩:=hr.uncons rfl
 obtain rfl:=h1.str_inv
 obtain ⟨v,vs',rfl,h1,h3⟩:=h2.uncons rfl
 obtain rfl:=h1.str_inv
 obtain rfl:=h3.nil_of
 refine enter_of Tryz.func154 rfl rfl ((Any.strings_Trim_laid shl160 (by kernel_rfl) s ⟨#[48,49,50,51,52,53,54,55,56,57]⟩ w h (by decide) (ascii_of_all (by decide))).mono fun e w' he=>⟨_,he.1,?_⟩)
 refine ⟨?_,he.2⟩
 have e:(ByteArray.mk (Lib.trimS s.data.toList (ByteArray.mk #[48,49,50,51,52,53,54,55,56,57]).data.toList).toArray)=trD s:=by
  unfold trD Lib.trimS Lib.trimLeftS Lib.trimRightS
  show ByteArray.mk ((((s.data.toList.reverse.dropWhile ([48,49,50,51,52,53,54,55,56,57].contains ·)).reverse).dropWhile ([48,49,50,51,52,53,54,55,56,57].contains ·)).toArray)=_
  rw [dw_congr has_dg,dw_congr has_dg]
 rw [e]
 exact .str _ .nil
theorem prg_ok:PrgOk Tryz.prog:={ mix:=by kernel_rfl,t0:=T0_ok,t1:=T1_ok,t2:=T2_ok,tF:=TF_ok,len64:=sh_len64,lz64:=sh_lz64,mul64:=sh_mul64,add64:=sh_add64,sub64:=sh_sub64,ixb:=sh_ixb,trm:=sh_trm,f3:=Tryz.func3,f4:=Tryz.func4,f5:=Tryz.func5,f6:=Tryz.func6,f7:=Tryz.func7,f8:=Tryz.func8,f9:=Tryz.func9,f10:=Tryz.func10,f11:=Tryz.func11,f12:=Tryz.func12,f13:=Tryz.func13,f14:=Tryz.func14,f15:=Tryz.func15,f16:=Tryz.func16,f17:=Tryz.func17,f18:=Tryz.func18,f19:=Tryz.func19,f20:=Tryz.func20,f21:=Tryz.func21,f22:=Tryz.func22,f23:=Tryz.func23,f24:=Tryz.func24,f25:=Tryz.func25,f26:=Tryz.func26,f27:=Tryz.func27,f28:=Tryz.func28,f29:=Tryz.func29,f30:=Tryz.func30,f31:=Tryz.func31,f32:=Tryz.func32,f33:=Tryz.func33,f34:=Tryz.func34,f35:=Tryz.func35,f36:=Tryz.func36,f37:=Tryz.func37,f38:=Tryz.func38,f39:=Tryz.func39,f40:=Tryz.func40,f41:=Tryz.func41,f42:=Tryz.func42,f43:=Tryz.func43,f44:=Tryz.func44,f45:=Tryz.func45,f46:=Tryz.func46,f47:=Tryz.func47,f48:=Tryz.func48,f49:=Tryz.func49,f50:=Tryz.func50,f51:=Tryz.func51,f52:=Tryz.func52,f53:=Tryz.func53,f54:=Tryz.func54,f55:=Tryz.func55,f56:=Tryz.func56,f57:=Tryz.func57,f58:=Tryz.func58,f59:=Tryz.func59,f60:=Tryz.func60,f61:=Tryz.func61,f62:=Tryz.func62,f63:=Tryz.func63,f64:=Tryz.func64,f65:=Tryz.func65,f66:=Tryz.func66,f67:=Tryz.func67,f68:=Tryz.func68,f69:=Tryz.func69,f70:=Tryz.func70,f71:=Tryz.func71,f72:=Tryz.func72,f73:=Tryz.func73,f74:=Tryz.func74,f75:=Tryz.func75,f76:=Tryz.func76,f77:=Tryz.func77,f78:=Tryz.func78,f79:=Tryz.func79,f80:=Tryz.func80,f81:=Tryz.func81,f82:=Tryz.func82,f83:=Tryz.func83,f84:=Tryz.func84,f85:=Tryz.func85,f86:=Tryz.func86,f87:=Tryz.func87,f88:=Tryz.func88,f89:=Tryz.func89,f90:=Tryz.func90,f91:=Tryz.func91,f92:=Tryz.func92,f93:=Tryz.func93,f94:=Tryz.func94,f95:=Tryz.func95,f96:=Tryz.func96,f97:=Tryz.func97,f98:=Tryz.func98,f99:=Tryz.func99,f100:=Tryz.func100,f101:=Tryz.func101,f102:=Tryz.func102,f103:=Tryz.func103,f104:=Tryz.func104,f105:=Tryz.func105,f106:=Tryz.func106,f107:=Tryz.func107,f108:=Tryz.func108,f109:=Tryz.func109,f110:=Tryz.func110,f111:=Tryz.func111,f112:=Tryz.func112,f113:=Tryz.func113,f114:=Tryz.func114,f115:=Tryz.func115,f116:=Tryz.func116,f117:=Tryz.func117,f118:=Tryz.func118,f119:=Tryz.func119,f120:=Tryz.func120,f121:=Tryz.func121,f122:=Tryz.func122,f123:=Tryz.func123,f124:=Tryz.func124,f125:=Tryz.func125,f126:=Tryz.func126,f127:=Tryz.func127,f128:=Tryz.func128,f129:=Tryz.func129,f130:=Tryz.func130,f131:=Tryz.func131,f132:=Tryz.func132,f133:=Tryz.func133,f134:=Tryz.func134,f135:=Tryz.func135,f136:=Tryz.func136,f137:=Tryz.func137,f138:=Tryz.func138,f139:=Tryz.func139,f140:=Tryz.func140,f141:=Tryz.func141,f142:=Tryz.func142,f143:=Tryz.func143,f144:=Tryz.func144,f145:=Tryz.func145,f146:=Tryz.func146,f147:=Tryz.func147,f148:=Tryz.func148,f149:=Tryz.func149,f150:=Tryz.func150,f151:=Tryz.func151,f152:=Tryz.func152,f153:=Tryz.func153,f155:=Tryz.func155,f156:=Tryz.func156,f157:=Tryz.func157,f158:=Tryz.func158,f159:=Tryz.func159,f160:=Tryz.func160,f162:=Tryz.func162,f170:=Tryz.func170,f201:=Tryz.func201 }
end Go.Proofs.YtapddfjimhohcaaGreatDoor.AM
/- What is handed in az data,az the machine sees it. -/
namespace Go.Proofs.YtapddfjimhohcaaGreatDoor.AM
set_option linter.all false
set_option autoImplicit true
set_option relaxedAutoImplicit true
open Go
inductive Sha where
 | bool
 | int (k:IntKind)
 | str
 | slice (e:Sha)
 | row (l:List Sha)
mutual
def Sha.width:Sha→Nat
 | .row l=>widthL l
 | _=>1
def widthL:List Sha→Nat
 | []=>0
 | s::l=>s.width+widthL l
end
mutual
def Sha.chk (P:Program):Sha→TypeId→Bool
 | .bool,t=>match P.underlying t with
   | some .bool=>true
   | _=>false
 | .int k,t=>match P.underlying t with
   | some (.int k')=>decide (k'=k)
   | _=>false
 | .str,t=>match P.underlying t with
   | some .string=>true
   | _=>false
 | .slice e,t=>match P.underlying t with
   | some (.slice u)=>e.chk P u && P.cellsOf u == e.width && Nat.blt 0 e.width
   | _=>false
 | .row l,t=>P.cellsOf t == widthL l && match P.underlying t with
   | some (.struct fs)=>chkF P l fs.toList 0
   | some (.array n u)=>l.length == n && chkA P l u (P.cellsOf u)
   | _=>false
def chkF (P:Program):List Sha→List Field→Nat→Bool
 | [],[],_=>true
 | s::l,f::fs,o=>f.offset == o && P.cellsOf f.type == s.width && s.chk P f.type && chkF P l fs (o+s.width)
 | _,_,_=>false
def chkA (P:Program):List Sha→TypeId→Nat→Bool
 | [],_,_=>true
 | s::l,u,c=>c == s.width && s.chk P u && chkA P l u c
end
mutual
def Sha.Ok:Sha→List AV→Prop
 | .bool,az=>∃ b,az=[.bool b]
 | .int k,az=>∃ n,(Lit.int k n).wf=true∧az=[.int k n]
 | .str,az=>∃ s:ByteArray,s.size≤maxLen∧az=[.str s]
 | .slice e,az=>az=[.nils]∨∃ l:List (List AV),l.length≤maxLen∧(∀ x ∈ l,e.Ok x)∧az=[.imm l.length l.flatten]
 | .row l,az=>okL l az
def okL:List Sha→List AV→Prop
 | [],az=>az=[]
 | s::l,az=>∃ a b,s.Ok a∧okL l b∧az=a++b
end
section
variable {H:Type} {enc:TypeId × Value→H} {P:Program} {w:World}
abbrev RL0 (w:World):=RL (fun _=>False) (fun _=>none) w
theorem cut_app {vs:List Value} {o k:Nat} (h:o+k≤vs.length):vs.drop o=(vs.drop o).take k++vs.drop (o+k):=by
 rw [← List.drop_drop,List.take_append_drop]
theorem rl_slice {e:Sha} {k n:Nat} {a:Addr} {len:Nat} {elems:List (DataW H × List MemPlace)} {u:TypeId} (hk:0<k) (hl:elems.length=len)
 (ih:∀ fuel cs x,DataW.trod enc P w 0 (fun _=>true) true fuel u cs=some x→∃ az,RL0 w cs az∧e.Ok az)
 (hel:∀ i,i<len→(w.cells? 0 (a.add (i*k)) k).bind (DataW.trod enc P w 0 (fun _=>true) true n u)=elems[i]?) (hlen:0<len) :
 a.spot=none∧∀ m,m≤len→∃ (us:List Value) (l:List (List AV)),l.length=m∧us.length=m*k∧(∀ j v,us[j]? = some v→w.cell? ⟨a.block,a.off+j,none⟩=some v)∧RL0 w us l.flatten∧∀ x ∈ l,e.Ok x:=by
 have get:∀ i,i<len→∃ cs x,w.cells? 0 (a.add (i*k)) k=some cs∧DataW.trod enc P w 0 (fun _=>true) true n u cs=some x:=fun i hi=>by
  have:=hel i hi
  rw [List.getElem?_eq_getElem (by omega),Option.bind_eq_some_iff] at this
  obtain ⟨cs,h1,h2⟩:=this
  exact ⟨cs,_,h1,h2⟩
 have hs:a.spot=none:=by
  obtain ⟨cs,x,h1,_⟩:=get 0 hlen
  obtain ⟨_,h2,h3⟩:=World.cells?_some h1
  have:=h3 0 hk
  rw [List.getElem?_eq_getElem (by omega)] at this
  have h4:=World.cell?_spot this
  rw [Nat.zero_mul] at h4
  simpa [Addr.add] using h4
 refine ⟨hs,fun m=>?_⟩
 induction m with
 | zero=>exact fun _=>⟨[],[],rfl,by simp,by simp,.nil,by simp⟩
 | succ m im =>
   intro hm
   obtain ⟨us,l,h1,h2,h3,h4,h5⟩:=im (by omega)
   obtain ⟨cs,x,g1,g2⟩:=get m (by omega)
   obtain ⟨az,g3,g4⟩:=ih _ _ _ g2
   obtain ⟨_,g5,g6⟩:=World.cells?_some g1
   refine ⟨us++cs,l++[az],by simp [h1],by rw [List.length_append,h2,g5,Nat.succ_mul],?_,?_,?_⟩
   · intro j v hj
     rcases Nat.lt_or_ge j us.length with hlt|hge
     · rw [List.getElem?_append_left hlt] at hj; exact h3 j v hj
     · rw [List.getElem?_append_right hge] at hj
       have hlt:j-us.length<k:=by have:=(List.getElem?_eq_some_iff.1 hj).1; omega
       have g7:=g6 _ hlt
       rw [hj] at g7
       obtain ⟨b,o,sp⟩:=a
       simp only at hs
       subst hs
       rw [Go.WideShapes.add_plain,Go.WideShapes.add_plain] at g7
       rw [← g7]
       have e3:o+j=o+m*k+(j-us.length):=by rw [← h2,Nat.add_assoc,Nat.add_sub_cancel' hge]
       simp only [e3]
   · rw [List.flatten_append]; simpa using h4.app g3
   · intro y hy
     rcases List.mem_append.1 hy with h|h
     · exact h5 y h
     · simp at h; exact h ▸ g4
mutual
theorem Sha.rl:∀ (sp:Sha) (t:TypeId),sp.chk P t=true→∀ fuel cs x,DataW.trod enc P w 0 (fun _=>true) true fuel t cs=some x→∃ az,RL0 w cs az∧sp.Ok az
 | .bool,t,hc,fuel,cs,x,h=>by
   have ht:P.underlying t=some .bool:=by simp only [Sha.chk] at hc; split at hc<;>simp_all
   cases fuel with
   | zero=>simp [DataW.trod] at h
   | succ n =>
     unfold DataW.trod at h
     rw [ht] at h
     split at h<;>simp_all
     exact ⟨_,.bool _ .nil,_,rfl⟩
 | .int k,t,hc,fuel,cs,x,h=>by
   have ht:P.underlying t=some (.int k):=by simp only [Sha.chk] at hc; split at hc<;>simp_all
   cases fuel with
   | zero=>simp [DataW.trod] at h
   | succ n =>
     unfold DataW.trod at h
     rw [ht] at h
     split at h<;>simp_all
     obtain ⟨⟨rfl,hw⟩,_⟩:=h
     exact ⟨_,.int _ _ .nil,_,hw,rfl⟩
 | .str,t,hc,fuel,cs,x,h=>by
   have ht:P.underlying t=some .string:=by simp only [Sha.chk] at hc; split at hc<;>simp_all
   cases fuel with
   | zero=>simp [DataW.trod] at h
   | succ n =>
     unfold DataW.trod at h
     rw [ht] at h
     split at h<;>simp_all
     exact ⟨_,.str _ .nil,_,h.1,rfl⟩
 | .slice e,t,hc,fuel,cs,x,h=>by
   obtain ⟨u,ht,h1,h2,h3⟩:∃ u,P.underlying t=some (.slice u)∧e.chk P u=true∧P.cellsOf u=e.width∧0<e.width:=by
    simp only [Sha.chk] at hc
    split at hc
    · rename_i u hu
      simp only [Bool.and_eq_true,beq_iff_eq] at hc
      exact ⟨u,hu,hc.1.1,hc.1.2,Nat.le_of_ble_eq_true hc.2⟩
    · simp at hc
   have ih:=Sha.rl e u h1
   rcases DataW.trod_slice ht h with ⟨rfl,_⟩|⟨a,len,cap,elems,rest,n,_,rfl,_,_,hlc,hm,hlen,hel,_,_⟩
   · exact ⟨[.nils],.nils .nil,.inl rfl⟩
   · rw [h2] at hel
     rcases Nat.eq_zero_or_pos len with h0|h0
     · subst h0; exact ⟨[.imm 0 []],.imm0 _ _ .nil,.inr ⟨[],by simp [maxLen],by simp,rfl⟩⟩
     · obtain ⟨hs,hall⟩:=rl_slice h3 hlen ih hel h0
       obtain ⟨us,l,g1,g2,g3,g4,g5⟩:=hall len (Nat.le_refl _)
       obtain ⟨b,o,sp⟩:=a
       simp only at hs
       subst hs
       exact ⟨[.imm len l.flatten],.imm hlc (fun _ h=>h) g3 g4 .nil,.inr ⟨l,by omega,g5,by rw [g1]⟩⟩
 | .row l,t,hc,fuel,cs,x,h=>by
   simp only [Sha.chk,Bool.and_eq_true,beq_iff_eq] at hc
   obtain ⟨hw,hc⟩:=hc
   split at hc
   · rename_i fs hu
     obtain ⟨xs,n,_,_,hl,hx,hall⟩:=DataW.trod_struct hu h
     have:=rlF l fs.toList 0 hc n cs (fun i f hf=>by
      have:=hall i f (by simpa using hf)
      rw [this]
      have:i<fs.size:=by have:=(List.getElem?_eq_some_iff.1 hf).1; simpa using this
      exact ⟨xs[i]'(by omega),List.getElem?_eq_getElem _⟩) (by rw [hl,hw]; omega)
     simpa [Sha.Ok] using this
   · rename_i n u hu
     simp only [Bool.and_eq_true,beq_iff_eq] at hc
     obtain ⟨xs,m,_,_,hl,hx,hall⟩:=DataW.trod_array hu h
     have:=rlA l u (P.cellsOf u) hc.2 m cs 0 0 (Nat.zero_mul _).symm (fun i hi=>by
      rw [Nat.zero_add,hall i (by omega)]
      exact ⟨xs[i]'(by omega),List.getElem?_eq_getElem _⟩) (by rw [hl,hw]; omega)
     simpa [Sha.Ok] using this
   · simp at hc
theorem rlF:∀ (l:List Sha) (fs:List Field) (o:Nat),chkF P l fs o=true→∀ (n:Nat) (cs:List Value),(∀ (i:Nat) (f:Field),fs[i]? = some f→∃ y,DataW.trod enc P w 0 (fun _=>true) true n f.type ((cs.drop f.offset).take (P.cellsOf f.type))=some y)→cs.length=o+widthL l→∃ az,RL0 w (cs.drop o) az∧okL l az
 | [],[],o,_,n,cs,_,hl=>⟨[],by rw [List.drop_of_length_le (by simp [widthL] at hl; omega)]; exact .nil,rfl⟩
 | [],_::_,_,hc,_,_,_,_=>by simp [chkF] at hc
 | _::_,[],_,hc,_,_,_,_=>by simp [chkF] at hc
 | s::l,f::fs,o,hc,n,cs,hall,hl=>by
   simp only [chkF,Bool.and_eq_true,beq_iff_eq] at hc
   obtain ⟨⟨⟨h1,h2⟩,h3⟩,h4⟩:=hc
   simp only [widthL] at hl
   obtain ⟨y,hy⟩:=hall 0 f rfl
   obtain ⟨a,ha,oa⟩:=Sha.rl s f.type h3 _ _ _ hy
   obtain ⟨b,hb,ob⟩:=rlF l fs (o+s.width) h4 n cs (fun i g hg=>hall (i+1) g (by simpa using hg)) (by omega)
   refine ⟨a++b,?_,a,b,oa,ob,rfl⟩
   rw [cut_app (k:=s.width) (by omega)]
   rw [h1,h2] at ha
   exact ha.app hb
theorem rlA:∀ (l:List Sha) (u:TypeId) (c:Nat),chkA P l u c=true→∀ (n:Nat) (cs:List Value) (j o:Nat),o=j*c→(∀ i,i<l.length→∃ y,DataW.trod enc P w 0 (fun _=>true) true n u ((cs.drop ((j+i)*c)).take c)=some y)→cs.length=o+widthL l→∃ az,RL0 w (cs.drop o) az∧okL l az
 | [],_,_,_,_,cs,_,o,_,_,hl=>⟨[],by rw [List.drop_of_length_le (by simp [widthL] at hl; omega)]; exact .nil,rfl⟩
 | s::l,u,c,hc,n,cs,j,o,ho,hall,hl=>by
   simp only [chkA,Bool.and_eq_true,beq_iff_eq] at hc
   obtain ⟨⟨h1,h2⟩,h3⟩:=hc
   simp only [widthL] at hl
   obtain ⟨y,hy⟩:=hall 0 (by simp)
   obtain ⟨a,ha,oa⟩:=Sha.rl s u h2 _ _ _ hy
   obtain ⟨b,hb,ob⟩:=rlA l u c h3 n cs (j+1) (o+c) (by rw [ho,Nat.succ_mul]) (fun i hi=>by
    have:=hall (i+1) (by simp; omega)
    rwa [show j+(i+1)=j+1+i by omega] at this) (by omega)
   refine ⟨a++b,?_,a,b,oa,ob,rfl⟩
   rw [cut_app (k:=c) (by omega)]
   rw [Nat.add_zero,← ho] at ha
   exact ha.app hb
end
theorem Sha.arg {sp:Sha} {t:TypeId} (hc:sp.chk P t=true) {v:Value} {d:DataW H} {ps:List MemPlace} (h:DataW.Trod enc P w 0 (fun _=>true) true t v d ps):∃ az,RL0 w v.cells.toList az∧sp.Ok az:=by
 obtain ⟨fuel,h⟩:=h
 exact Sha.rl sp t hc fuel _ _ h
theorem arg_row {l:List Sha} {t:TypeId} (hc:(Sha.row l).chk P t=true) {v:Value} {d:DataW H} {ps:List MemPlace} {b:Nat} (h:DataW.Trod enc P w 0 (fun _=>true) true t v d ps) (hv:Value.okWide P w .any b t v):∃ az,RL0 w [v] [.agg az]∧okL l az:=by
 obtain ⟨az,h1,h2⟩:=Sha.arg hc h
 have:∃ cs,v = .agg cs:=by
  simp only [Sha.chk,Bool.and_eq_true] at hc
  unfold Value.okWide at hv
  have hc:=hc.2
  split at hc
  · rename_i fs hu; rw [hu] at hv; exact ⟨_,hv.choose_spec.1⟩
  · rename_i n u hu; rw [hu] at hv; exact ⟨_,hv.choose_spec.1⟩
  · simp at hc
 obtain ⟨cs,rfl⟩:=this
 exact ⟨az,by simpa using RL.agg (cs:=cs.toList) (by simpa [Value.cells] using h1) .nil,by simpa [Sha.Ok] using h2⟩
end
end Go.Proofs.YtapddfjimhohcaaGreatDoor.AM
/- What all rows share: a call by its specification; arguments that are data. -/
namespace Go.Proofs.YtapddfjimhohcaaGreatDoor
set_option linter.all false
set_option autoImplicit true
set_option relaxedAutoImplicit true
open Go Go.Proofs Go.ChangeShapes Go.WideShapes Go.ChangeAt Go.RowKit
theorem CSpec.calls {P:Program} {f:Nat} {fn:Func} {c:Code} {args:List AM.AV} {b:Bool} (h:AM.CSpec P f args (.bool b)) (hf:P.funcs[f]? = some fn) (hb:fn.body=some c) (hn:(fn.name == "runtime.NumGoroutine")=false) {vs:List Value} {w:World}
 (hr:AM.RL (fun _=>False) (fun _=>none) w vs args):Calls P f vs.toArray w fun e w'=>e = .returned (.bool b)∧Below w.heap.size w w':=by
 have:=h (fun _=>False) (fun _=>none) w vs (fun _ h=>h.elim) hr
 unfold AM.Invk at this
 rw [AM.callFunc_enter hf hb hn] at this
 simp only [] at this
 refine this.mono fun e w' ⟨v,he,hv,hB⟩=>?_
 rw [he,hv.bool_inv]; exact ⟨rfl,hB⟩
theorem Tryz.own:ownKnob Tryz.prog.godebug=none:=by kernel_rfl
theorem Tryz.laidOut:laidOutB Tryz.prog=true:=by kernel_rfl
end Go.Proofs.YtapddfjimhohcaaGreatDoor
/- Package nat: making numbers,their digits. -/
namespace Go.Proofs.YtapddfjimhohcaaGreatDoor.AM
set_option linter.all false
set_option autoImplicit true
set_option relaxedAutoImplicit true
open Go Go.Proofs
set_option maxRecDepth 100000
set_option maxHeartbeats 4000000
set_option linter.unusedSimpArgs false
variable {P:Program}
theorem Of_spec (hP:PrgOk P) (n:Nat) (hn:n<18446744073709551616):CSpec P 96 [.int .u64 n] (.agg [.opq (.nat (n)),.pad]):=by
 have HE:=EnvOk.no hP.t0
 refine CSpec_go (E:=⟨T0,noS⟩) (fn96 hP) HE hP.mix ?_
 simp only [go_sem]
 exact Conv.nat1 hn
theorem cut_spec (hP:PrgOk P) (l:List Nat) (hd:∀ d ∈ l,d<18446744073709551616) (hn:l.length<4611686018427387904):CSpec P 108 [.imm l.length (List.map (fun d:Nat=>AV.int .u64 (d:Int)) (l))] (.agg [.opq (.nat (dOf 18446744073709551616 l)),.pad]):=by
 have HE:=EnvOk.no hP.t0
 refine CSpec_go (E:=⟨T0,noS⟩) (fn108 hP) HE hP.mix ?_
 simp only [go_sem]
 refine trX_loop HE hP.mix [0] (fun k:Nat=>⟨upd (upd (upd (fun _=>.junk) 0 (.imm l.length (List.map (fun d:Nat=>AV.int .u64 (d:Int)) (l)))) 2 (.ref 0 0)) 3 (.int .i64 (k:Int)),upd (fun _=>.unused) 0 (.live [.int .u64 0,.nils]),33⟩) (fun k=>k≤l.length∧dOf 18446744073709551616 (l.take k)=dOf 18446744073709551616 l) (fun k=>k) l.length 1
  Has.z (Kept.of rfl KT.z (KM.one rfl rfl)) ⟨Nat.le_refl _,by simp⟩ 33 (by kernel_rfl) ?_
 intro k ⟨hk,he⟩
 cases k with
 | zero =>
   simp only [go_sem]
   have:dOf 18446744073709551616 l=0:=by rw [← he]; rfl
   rw [this]; exact Conv.nat1 (a:=0) (by decide)
 | succ k =>
   have h2:=wi_nat k (by omega)
   have hk':k<l.length:=by omega
   have hk2:k≤l.length:=by omega
   have htk:=take_snoc hk'
   simp only [go_sem,h2,gU' hk',hk',hk2]
   refine if_split (fun hz=>?_) (fun hz=>?_)
   · simp only [go_sem,h2]
     have hz:=eq_of_beq hz
     refine ⟨k,Kept.of rfl KT.z (KM.one rfl rfl),⟨by omega,?_⟩,by omega⟩
     rw [← he,htk,hz,dOf_append]; simp [dOf]
   · have hz:l.getD k 0 ≠ 0:=by simpa using hz
     simp only [go_sem]
     have hcan:Canon (l.take (k+1)):=by
      intro h; rw [List.getLast_eq_getElem]
      have:(l.take (k+1)).length-1=k:=by simp; omega
      simp only [this]
      simpa [hk'] using hz
     refine if_split (fun hk1=>?_) (fun hk1=>?_)
     · obtain rfl:=eq_of_beq hk1
       have hd0:dOf 18446744073709551616 l=l.getD 0 0:=by rw [← he,htk]; simp [dOf]
       simp only [go_sem,gU' hk',gU hk',hk']
       rw [hd0]
       exact Conv.nat1 (hd _ (getD_mem hk'))
     · simp only [go_sem,hk]
       rw [← he]
       have hk3:k ≠ 0:=fun e=>by rw [e] at hk1; simp at hk1
       exact Conv.natL (fun d hd'=>hd d (List.mem_of_mem_take hd')) hcan (by simp; omega) (by simp; omega)
def cutS:List AV→Option (Prop × AV)
 | [.imm n cs]=>some (cs=(List.map (fun d:Nat=>AV.int .u64 (d:Int)) (cs.map ud))∧n=cs.length∧(∀ d ∈ cs.map ud,d<18446744073709551616)∧n<4611686018427387904,(.agg [.opq (.nat (dOf 18446744073709551616 (cs.map ud))),.pad]))
 | _=>none
theorem cutS_ok (hP:PrgOk P) (args p r) (h:cutS args=some (p,r)) (hp:p):CSpec P 108 args r:=by
 unfold cutS at h
 split at h
 · simp only [Option.some.injEq,Prod.mk.injEq] at h
   obtain ⟨rfl,rfl⟩:=h
   obtain ⟨h1,h2,h3,h4⟩:=hp
   have:=cut_spec hP _ h3 (by simp; omega)
   rw [← h1,List.length_map,← h2] at this
   exact this
 · simp at h
theorem digits_spec (hP:PrgOk P) (a:Nat):CSpec P 106 [(.agg [.opq (.nat (a)),.pad])] (sv (digs 18446744073709551616 a)):=by
 have HE:=EnvOk.no hP.t0
 refine CSpec.cv ?_ (CvL.natIn a .nil)
 by_cases ha:a<18446744073709551616
 · rw [natC_small ha]
   refine CSpec_go (E:=⟨T0,noS⟩) (fn106 hP) HE hP.mix ?_
   simp only [go_sem]
   refine if_split (fun h=>?_) (fun h=>?_)
   · rw [eq_of_beq h,digs_zero,sv_nil]
     simp only [go_sem]
     exact .refl _
   · have h:a ≠ 0:=by simpa using h
     rw [digs_small _ _ (by decide) ha h,sv_ne (by simp)]
     simp only [go_sem]
     exact .refl _
 · have h:a ≠ 0:=by omega
   rw [natC_great ha,sv_ne (by rw [digs_eq _ _ (by decide) h]; simp)]
   refine CSpec_go (E:=⟨T0,noS⟩) (fn106 hP) HE hP.mix ?_
   simp only [go_sem]
   exact ⟨by have:=digs_length_gt 18446744073709551616 a 1 (by decide) (by omega); omega,.refl _⟩
def digitsS:List AV→Option (Prop × AV):=on1 fun a=>(True,sv (digs 18446744073709551616 a))
theorem digitsS_ok (hP:PrgOk P) (args p r):digitsS args=some (p,r)→p→CSpec P 106 args r:=on1_ok (fun a _=>digits_spec hP a) args p r
def OfS:List AV→Option (Prop × AV)
 | [.int .u64 n]=>some (0≤n∧n<18446744073709551616,(.agg [.opq (.nat (n.toNat)),.pad]))
 | _=>none
theorem OfS_ok (hP:PrgOk P) (args p r) (h:OfS args=some (p,r)) (hp:p):CSpec P 96 args r:=by
 unfold OfS at h
 split at h
 · simp only [Option.some.injEq,Prod.mk.injEq] at h
   obtain ⟨rfl,rfl⟩:=h
   obtain ⟨n',e⟩:=Int.eq_ofNat_of_zero_le hp.1
   subst e
   have:=Of_spec hP n' (by omega)
   exact this
 · simp at h
attribute [go_sem] cutS digitsS OfS
def len64S:List AV→Option (Prop × AV)
 | [.int .u64 x]=>some (0≤x∧x.toNat<18446744073709551616,.int .i64 (blen x.toNat:Nat))
 | _=>none
theorem len64S_ok (hP:PrgOk P) (args p r) (h:len64S args=some (p,r)) (hp:p):CSpec P 122 args r:=by
 unfold len64S at h
 split at h
 · simp only [Option.some.injEq,Prod.mk.injEq] at h
   obtain ⟨rfl,rfl⟩:=h
   exact (by have:=hP.len64 _ hp.2; rw [nn hp.1] at this; exact this)
 · simp at h
def lz64S:List AV→Option (Prop × AV)
 | [.int .u64 x]=>some (0≤x∧x.toNat<18446744073709551616,.int .i64 ((64-blen x.toNat:Nat):Int))
 | _=>none
theorem lz64S_ok (hP:PrgOk P) (args p r) (h:lz64S args=some (p,r)) (hp:p):CSpec P 146 args r:=by
 unfold lz64S at h
 split at h
 · simp only [Option.some.injEq,Prod.mk.injEq] at h
   obtain ⟨rfl,rfl⟩:=h
   exact (by have:=hP.lz64 _ hp.2; rw [nn hp.1] at this; exact this)
 · simp at h
noncomputable def mul64S:List AV→Option (Prop × AV)
 | [.int .u64 x,.int .u64 y]=>some ((0≤x∧0≤y)∧x.toNat<18446744073709551616∧y.toNat<18446744073709551616,.tup [.int .u64 ((mulh x.toNat y.toNat:Nat):Int),.int .u64 ((mull x.toNat y.toNat:Nat):Int)])
 | _=>none
theorem mul64S_ok (hP:PrgOk P) (args p r) (h:mul64S args=some (p,r)) (hp:p):CSpec P 105 args r:=by
 unfold mul64S at h
 split at h
 · simp only [Option.some.injEq,Prod.mk.injEq] at h
   obtain ⟨rfl,rfl⟩:=h
   exact (by have:=hP.mul64 _ _ hp.2.1 hp.2.2; rw [nn hp.1.1,nn hp.1.2] at this; exact this)
 · simp at h
noncomputable def add64S:List AV→Option (Prop × AV)
 | [.int .u64 x,.int .u64 y,.int .u64 c]=>some ((0≤x∧0≤y∧0≤c)∧x.toNat<18446744073709551616∧c.toNat≤1,.tup [.int .u64 ((addl x.toNat y.toNat c.toNat:Nat):Int),.int .u64 ((addh x.toNat y.toNat c.toNat:Nat):Int)])
 | _=>none
theorem add64S_ok (hP:PrgOk P) (args p r) (h:add64S args=some (p,r)) (hp:p):CSpec P 107 args r:=by
 unfold add64S at h
 split at h
 · simp only [Option.some.injEq,Prod.mk.injEq] at h
   obtain ⟨rfl,rfl⟩:=h
   exact (by rename_i x y c; have:=hP.add64 x.toNat y.toNat c.toNat hp.2.1 hp.2.2; rw [nn hp.1.1,nn hp.1.2.1,nn hp.1.2.2] at this; exact this)
 · simp at h
noncomputable def sub64S:List AV→Option (Prop × AV)
 | [.int .u64 x,.int .u64 y,.int .u64 c]=>some ((0≤x∧0≤y∧0≤c)∧x.toNat<18446744073709551616∧c.toNat≤1,.tup [.int .u64 ((subd x.toNat y.toNat c.toNat:Nat):Int),.int .u64 ((bor x.toNat y.toNat c.toNat:Nat):Int)])
 | _=>none
theorem sub64S_ok (hP:PrgOk P) (args p r) (h:sub64S args=some (p,r)) (hp:p):CSpec P 125 args r:=by
 unfold sub64S at h
 split at h
 · simp only [Option.some.injEq,Prod.mk.injEq] at h
   obtain ⟨rfl,rfl⟩:=h
   exact (by rename_i x y c; have:=hP.sub64 x.toNat y.toNat c.toNat hp.2.1 hp.2.2; rw [nn hp.1.1,nn hp.1.2.1,nn hp.1.2.2] at this; exact this)
 · simp at h
attribute [go_sem] len64S lz64S mul64S add64S sub64S
noncomputable def Sa:Nat→List AV→Option (Prop × AV):=addS (addS (addS (addS (addS (addS (addS (addS noS 108 cutS) 106 digitsS) 96 OfS) 122 len64S) 146 lz64S) 105 mul64S) 107 add64S) 125 sub64S
theorem Sa_ok (hP:PrgOk P):EnvOk P ⟨T0,Sa⟩:=(((((((((EnvOk.no hP.t0).add (cutS_ok hP)).add (digitsS_ok hP)).add (OfS_ok hP)).add (len64S_ok hP)).add (lz64S_ok hP)).add (mul64S_ok hP)).add (add64S_ok hP)).add (sub64S_ok hP))
theorem Sa_at (f a):Sa f a=(addS (addS (addS (addS (addS (addS (addS (addS noS 108 cutS) 106 digitsS) 96 OfS) 122 len64S) 146 lz64S) 105 mul64S) 107 add64S) 125 sub64S) f a:=rfl
attribute [go_sem] Sa_at
theorem Bits_spec (hP:PrgOk P) (a:Nat) (hb:blen a≤68719476736):CSpec P 97 [(.agg [.opq (.nat (a)),.pad])] (.int .i64 (blen a:Nat)):=by
 have HE:=Sa_ok hP
 refine CSpec.cv ?_ (CvL.natIn a .nil)
 by_cases ha:a<18446744073709551616
 · rw [natC_small ha]
   refine CSpec_go (E:=⟨T0,Sa⟩) (fn97 hP) HE hP.mix ?_
   simp only [go_sem,ha]
   exact .refl _
 · have h:a ≠ 0:=by omega
   have hl:=digs_length_gt 18446744073709551616 a 1 (by decide) (by omega)
   have hl2:=digs_len_blen a
   have he:=blen_digs a h
   have hd:∀ d ∈ digs 18446744073709551616 a,d<18446744073709551616:=digs_lt 18446744073709551616 a (by decide)
   obtain ⟨k,hk⟩:∃ k,(digs 18446744073709551616 a).length=k+1:=⟨(digs 18446744073709551616 a).length-1,by omega⟩
   rw [hk,Nat.add_sub_cancel] at he
   have hkl:k<(digs 18446744073709551616 a).length:=by omega
   rw [natC_great ha,hk]
   refine CSpec_go (E:=⟨T0,Sa⟩) (fn97 hP) HE hP.mix ?_
   have h2:=wi_nat k (by omega)
   have h3:IntKind.i64.wrap (64*(k:Int))=((64*k:Nat):Int):=by rw [IntKind.wrap_i64]; omega
   have h4:IntKind.i64.wrap (((64*k:Nat):Int)+((blen ((digs 18446744073709551616 a).getD k 0):Nat):Int))=((blen a:Nat):Int):=by rw [IntKind.wrap_i64]; omega
   have hd1:=hd _ (getD_mem hkl)
   have hd2:k≤(digs 18446744073709551616 a).length:=by omega
   have hd3:k<k+1:=by omega
   simp only [go_sem,h2,h3,h4,gU' hkl,hkl,hd1,hd2,hd3]
   exact ⟨by omega,.refl _⟩
def BitsS:List AV→Option (Prop × AV):=on1 fun a=>(blen a≤68719476736,.int .i64 (blen a:Nat))
theorem BitsS_ok (hP:PrgOk P) (args p r):BitsS args=some (p,r)→p→CSpec P 97 args r:=on1_ok (fun a h=>Bits_spec hP a h) args p r
theorem Cmp_spec (hP:PrgOk P) (a b:Nat) (ha:blen a≤68719476736) (hb:blen b≤68719476736):CSpec P 121 [(.agg [.opq (.nat (a)),.pad]),(.agg [.opq (.nat (b)),.pad])] (.int .i64 (cmpI a b)):=by
 have HE:=Sa_ok hP
 have hxd:∀ d ∈ digs 18446744073709551616 a,d<18446744073709551616:=digs_lt 18446744073709551616 a (by decide)
 have hyd:∀ d ∈ digs 18446744073709551616 b,d<18446744073709551616:=digs_lt 18446744073709551616 b (by decide)
 have hx:=dOf_digs 18446744073709551616 a (by decide)
 have hy:=dOf_digs 18446744073709551616 b (by decide)
 have hlx:=digs_len_blen a
 have hly:=digs_len_blen b
 have hlt:=digs_len_lt 18446744073709551616 a b (by decide)
 have hgt:=digs_len_lt 18446744073709551616 b a (by decide)
 refine CSpec_go (E:=⟨T0,Sa⟩) (fn121 hP) HE hP.mix ?_
 simp only [go_sem]
 generalize digs 18446744073709551616 a=x at *
 generalize digs 18446744073709551616 b=y at *
 refine if_split (fun h=>?_) (fun h=>?_)
 · simp only [go_sem]
   refine if_split (fun h=>?_) (fun h'=>?_)
   · simp only [go_sem]
     rw [cmpI_lt (hlt (of_decide_eq_true h))]; exact .refl _
   · simp only [go_sem]
     have h':=of_decide_eq_false h'
     have h:x.length ≠ y.length:=by simpa using h
     rw [cmpI_gt (hgt (by omega))]; exact .refl _
 · have hxy:y.length=x.length:=by simpa using Eq.symm (by simpa using h)
   have hw:=wi_pred' x.length (by omega)
   simp only [go_sem,hw]
   refine trX_loop HE hP.mix [0,1] (fun k:Nat=>⟨upd (upd (upd (upd (fun _=>.junk) 4 (.int .i64 0)) 5 (sv x)) 6 (sv y)) 7 (.int .i64 ((k:Int)-1)),upd (upd (fun _=>.unused) 0 (.live [.opq (.nat a),.pad])) 1 (.live [.opq (.nat b),.pad]),49⟩) (fun k=>k≤x.length∧x.drop k=y.drop k) (fun k=>k) x.length 2
    Has.z (Kept.of rfl KT.z (KM.two rfl rfl rfl rfl rfl)) ⟨Nat.le_refl _,by rw [List.drop_length,← hxy,List.drop_length]⟩ 49 (by kernel_rfl) ?_
   intro k ⟨hk,he⟩
   cases k with
   | zero =>
     have h0:((0:Int)≤((0:Nat):Int)-1)=False:=by simp
     simp only [go_sem,h0]
     have:a=b:=by rw [← hx,← hy]; simp at he; rw [he]
     rw [this,cmpI_eq]; exact .refl _
   | succ k =>
     have k1:k<x.length:=by omega
     have k2:k<y.length:=by omega
     have k3:k≤x.length:=by omega
     have k4:k≤y.length:=by omega
     have e1:x ≠ []:=by intro e; rw [e] at k1; simp at k1
     have e2:y ≠ []:=by intro e; rw [e] at k2; simp at k2
     simp only [go_sem,sv_ia e1,sv_ia e2,k1,k2,k3,k4,gU' k1,gU' k2]
     refine if_split (fun h=>?_) (fun h=>?_)
     · simp only [go_sem]
       have:=dOf_cmp 18446744073709551616 x y hxd k k1 k2 he (of_decide_eq_true h)
       rw [cmpI_lt (by omega)]; exact .refl _
     · simp only [go_sem,sv_ia e1,sv_ia e2,k1,k2,k3,k4,gU' k1,gU' k2]
       refine if_split (fun h'=>?_) (fun h'=>?_)
       · simp only [go_sem]
         have:=dOf_cmp 18446744073709551616 y x hyd k k2 k1 he.symm (of_decide_eq_true h')
         rw [cmpI_gt (by omega)]; exact .refl _
       · have hw:=wi_pred' k (by omega)
         simp only [go_sem,hw]
         refine ⟨k,Kept.of rfl KT.z (KM.two rfl rfl rfl rfl rfl),⟨by omega,?_⟩,by omega⟩
         have e1:=List.drop_eq_getElem_cons k1
         have e2:=List.drop_eq_getElem_cons k2
         have h:=of_decide_eq_false h
         have h':=of_decide_eq_false h'
         rw [getD_get k1,getD_get k2] at h
         rw [getD_get k1,getD_get k2] at h'
         rw [e1,e2,he,show x[k]=y[k] by omega]
def CmpS:List AV→Option (Prop × AV):=on2 fun a b=>(blen a≤68719476736∧blen b≤68719476736,.int .i64 (cmpI a b))
theorem CmpS_ok (hP:PrgOk P) (args p r):CmpS args=some (p,r)→p→CSpec P 121 args r:=on2_ok (fun a b h=>by exact Cmp_spec hP a b h.1 h.2) args p r
attribute [go_sem] BitsS CmpS
end Go.Proofs.YtapddfjimhohcaaGreatDoor.AM
/- Package nat: sums. -/
namespace Go.Proofs.YtapddfjimhohcaaGreatDoor.AM
set_option linter.all false
set_option autoImplicit true
set_option relaxedAutoImplicit true
open Go Go.Proofs
set_option maxRecDepth 100000
set_option maxHeartbeats 8000000
set_option linter.unusedSimpArgs false
variable {P:Program}
noncomputable def Sb:Nat→List AV→Option (Prop × AV):=addS (addS Sa 97 BitsS) 121 CmpS
theorem Sb_ok (hP:PrgOk P):EnvOk P ⟨T0,Sb⟩:=(((Sa_ok hP).add (BitsS_ok hP)).add (CmpS_ok hP))
theorem Sb_at (f a):Sb f a=(addS (addS Sa 97 BitsS) 121 CmpS) f a:=rfl
attribute [go_sem] Sb_at
theorem Add_small (hP:PrgOk P) (a b:Nat) (ha:a<18446744073709551616) (hb:b<18446744073709551616):CSpec P 104 [.agg [.int .u64 (a:Int),.nils],.agg [.int .u64 (b:Int),.nils]] (.agg [.opq (.nat (a+b)),.pad]):=by
 have HE:=Sb_ok hP
 refine CSpec_go (E:=⟨T0,Sb⟩) (fn104 hP) HE hP.mix ?_
 simp only [go_sem,ha]
 have h2:=add_all a b 0
 have h3:=addl_lt a b 0
 have h4:=addh_le ha hb (c:=0) (by decide)
 refine if_split (fun h=>?_) (fun h=>?_)
 · simp only [go_sem]
   have h:=eq_of_beq h
   have e:addl a b 0=a+b:=by omega
   rw [e]; exact Conv.nat1 (by omega)
 · simp only [go_sem]
   have h:addh a b 0 ≠ 0:=by simpa using h
   have e:dOf 18446744073709551616 [addl a b 0,addh a b 0]=a+b:=by simp only [dOf]; omega
   have:=Conv.natL (l:=[addl a b 0,addh a b 0]) (n:=2) ?_ ?_ (by simp) rfl
   · rw [e] at this; exact this
   · intro d hd
     simp only [List.mem_cons,List.not_mem_nil,or_false] at hd
     rcases hd with rfl|rfl<;>omega
   · intro _; simpa using h
theorem Add_great (hP:PrgOk P) (a b:Nat) (ha:blen a≤68719476736) (hb:blen b≤68719476736) (hg:¬ (a<18446744073709551616∧b<18446744073709551616)):CSpec P 104 [.agg (natC a),.agg (natC b)] (.agg [.opq (.nat (a+b)),.pad]):=by
 have HE:=Sb_ok hP
 have hxd:∀ d ∈ digs 18446744073709551616 a,d<18446744073709551616:=digs_lt 18446744073709551616 a (by decide)
 have hyd:∀ d ∈ digs 18446744073709551616 b,d<18446744073709551616:=digs_lt 18446744073709551616 b (by decide)
 have hx:=dOf_digs 18446744073709551616 a (by decide)
 have hy:=dOf_digs 18446744073709551616 b (by decide)
 have hlx:=digs_len_blen a
 have hly:=digs_len_blen b
 have hlt:=digs_len_lt 18446744073709551616 a b (by decide)
 have hgt:=digs_len_lt 18446744073709551616 b a (by decide)
 by_cases h1:a<18446744073709551616
 · rw [natC_small h1,natC_great (by omega)]
   have hl:=digs_length_gt 18446744073709551616 b 1 (by decide) (by omega)
   have hl1:=digs_length_le 18446744073709551616 a 1 (by decide) (by omega)
   have hl':(digs 18446744073709551616 a).length<(digs 18446744073709551616 b).length:=by omega
   have hl2:2≤(digs 18446744073709551616 b).length:=by omega
   have hl3:((digs 18446744073709551616 b).length ≠ 0)=True:=eq_true (by omega)
   refine CSpec_go (E:=⟨T0,Sb⟩) (fn104 hP) HE hP.mix ?_
   simp only [go_sem,h1,hl',hl2,hl3]
   generalize digs 18446744073709551616 a=x at *
   generalize digs 18446744073709551616 b=y at *
   have hi:=wi_add1 y.length (by omega)
   have hi2:y.length+1≤1099511627776:=by omega
   have hi3:y.length≤y.length+1:=by omega
   simp only [go_sem,hi,hi2,hi3]
   have hyx:x.length≤y.length:=by omega
   refine trX_loop HE hP.mix [29,2,1,0] (fun q:Nat × List Nat × Nat=>⟨upd (upd (upd (upd (upd (upd (fun _=>.junk) 4 (.ref 2 0)) 8 (sv x)) 9 (.sl 29 0 (y.length+1) 1)) 10 (.int .u64 (q.2.2:Int))) 56 (.int .i64 ((y.length+1:Nat):Int))) 57 (.int .i64 (q.1:Int)),upd (upd (upd (upd (fun _=>.unused) 0 (.live [.int .u64 (a:Int),.nils])) 1 (.live [.int .u64 0,.imm y.length (List.map (fun d:Nat=>AV.int .u64 (d:Int)) (y))])) 2 (.live [.int .u64 0,.nils])) 29 (.live (List.map (fun d:Nat=>AV.int .u64 (d:Int)) (q.2.1))),86⟩)
    (fun q=>q.1≤y.length+1∧q.2.1.length=y.length+1∧(∀ d ∈ q.2.1,d<18446744073709551616)∧q.2.2≤1∧dOf 18446744073709551616 q.2.1+18446744073709551616^q.1*q.2.2=dOf 18446744073709551616 y+dOf 18446744073709551616 (x.take q.1)) (fun q=>y.length+1-q.1) (0,y++[0],0) 40
    Has.z (Kept.of rfl KT.z KM.z) ⟨by simp,by simp,by intro d hd; rcases List.mem_append.1 hd with hd|hd; exact (hyd d hd); simp at hd; omega,by simp,by simp [dOf_append,dOf]⟩ 86 (by kernel_rfl) ?_
   rintro ⟨k,z,c⟩ ⟨q1,q2,q3,q4,q5⟩
   simp only [] at q1 q2 q3 q4 q5
   have fin:dOf 18446744073709551616 z=a+b→CSpec P 108 [.imm z.length (List.map (fun d:Nat=>AV.int .u64 (d:Int)) (z))] (.agg [.opq (.nat (a+b)),.pad]):=fun h=>h ▸ cut_spec hP z q3 (by omega)
   have htk:z.take (y.length+1)=z:=List.take_of_length_le (by omega)
   have hsl:y.length+1<4611686018427387904:=by omega
   have hz3:(∀ d ∈ z,d<18446744073709551616)=True:=eq_true q3
   have hall:=hyd
   by_cases hk:k<y.length+1
   · have hkz:k<z.length:=by omega
     have hzd:=q3 _ (getD_mem hkz)
     have hw:=wi_add1 k (by omega)
     have hset:=dOf_set 18446744073709551616 z k
     by_cases hky:k<x.length
     · have e1:x ≠ []:=by intro e; rw [e] at hky; simp at hky
       have hky':k≤x.length:=by omega
       simp only [go_sem,hk,hky,hky',hkz,gU hkz,gU' hky,q4,hzd,hw,sv_ia e1]
       have hs:=hset (addl (z.getD k 0) (x.getD k 0) c) hkz
       have hst:=add_step (18446744073709551616^k) (z.getD k 0) (x.getD k 0) c _ _ _ q5 hs
       have hyk:=hxd _ (getD_mem hky)
       refine ⟨(k+1,z.set k (addl (z.getD k 0) (x.getD k 0) c),addh (z.getD k 0) (x.getD k 0) c),Kept.of rfl KT.z KM.z,⟨by simp only []; omega,by simp only [List.length_set]; omega,?_,addh_le hzd hyk q4,?_⟩,by simp only []; omega⟩
       · intro d hd
         rcases List.mem_or_eq_of_mem_set hd with hd|rfl
         · exact q3 d hd
         · exact addl_lt _ _ _
       · simp only []
         rw [dOf_take_succ 18446744073709551616 x k hky,Nat.pow_succ]; exact hst
     · have htke:x.take k=x:=List.take_of_length_le (by omega)
       have htke1:x.take (k+1)=x:=List.take_of_length_le (by omega)
       by_cases hc:c=0
       · have hc':(c == 0)=true:=by rw [hc]; rfl
         simp only [go_sem,hk,hky,hc',htk,q2,hz3,hsl]
         rw [hc,htke,hy,hx] at q5
         have e:dOf 18446744073709551616 z=a+b:=by simp only [Nat.mul_zero,Nat.add_zero] at q5; omega
         rw [e]; exact .refl _
       · have hc':(c == 0)=false:=by simpa using hc
         simp only [go_sem,hk,hky,hc',hkz,gU hkz,q4,hzd,hw]
         have hs:=hset (addl (z.getD k 0) 0 c) hkz
         have hst:=add_step (18446744073709551616^k) (z.getD k 0) 0 c _ _ _ q5 hs
         refine ⟨(k+1,z.set k (addl (z.getD k 0) 0 c),addh (z.getD k 0) 0 c),Kept.of rfl KT.z KM.z,⟨by simp only []; omega,by simp only [List.length_set]; omega,?_,addh_le hzd (by decide) q4,?_⟩,by simp only []; omega⟩
         · intro d hd
           rcases List.mem_or_eq_of_mem_set hd with hd|rfl
           · exact q3 d hd
           · exact addl_lt _ _ _
         · simp only []
           rw [htke] at hst
           rw [htke1,Nat.pow_succ]; exact hst
   · simp only [go_sem,hk,htk,q2,hz3,hsl]
     have hkn:k=y.length+1:=by omega
     have htke:x.take k=x:=List.take_of_length_le (by omega)
     rw [htke] at q5
     have l1:=dOf_lt 18446744073709551616 y hyd
     have l2:=dOf_lt 18446744073709551616 x hxd
     have l3:=Nat.pow_le_pow_right (by decide:0<18446744073709551616) hyx
     have l4:18446744073709551616^k=18446744073709551616^y.length*18446744073709551616:=by rw [hkn,Nat.pow_succ]
     have hc:c=0:=by
      rcases Nat.eq_zero_or_pos c with h|h
      · exact h
      · obtain rfl:c=1:=by omega
        omega
     have e:dOf 18446744073709551616 z=a+b:=by rw [hc,hy,hx] at q5; simp only [Nat.mul_zero,Nat.add_zero] at q5; omega
     rw [e]; exact .refl _
 · have hl:=digs_length_gt 18446744073709551616 a 1 (by decide) (by omega)
   have hl2:2≤(digs 18446744073709551616 a).length:=by omega
   have hl3:((digs 18446744073709551616 a).length ≠ 0)=True:=eq_true (by omega)
   by_cases h2:b<18446744073709551616
   · rw [natC_great h1,natC_small h2]
     have hl1:=digs_length_le 18446744073709551616 b 1 (by decide) (by omega)
     have hl':¬ (digs 18446744073709551616 a).length<(digs 18446744073709551616 b).length:=by omega
     refine CSpec_go (E:=⟨T0,Sb⟩) (fn104 hP) HE hP.mix ?_
     simp only [go_sem,h2,hl',hl2,hl3]
     generalize digs 18446744073709551616 a=x at *
     generalize digs 18446744073709551616 b=y at *
     have hi:=wi_add1 x.length (by omega)
     have hi2:x.length+1≤1099511627776:=by omega
     have hi3:x.length≤x.length+1:=by omega
     simp only [go_sem,hi,hi2,hi3]
     have hyx:y.length≤x.length:=by omega
     refine trX_loop HE hP.mix [22,2,1,0] (fun q:Nat × List Nat × Nat=>⟨upd (upd (upd (upd (upd (upd (fun _=>.junk) 4 (.ref 2 0)) 8 (sv y)) 9 (.sl 22 0 (x.length+1) 1)) 10 (.int .u64 (q.2.2:Int))) 56 (.int .i64 ((x.length+1:Nat):Int))) 57 (.int .i64 (q.1:Int)),upd (upd (upd (upd (fun _=>.unused) 0 (.live [.int .u64 0,.imm x.length (List.map (fun d:Nat=>AV.int .u64 (d:Int)) (x))])) 1 (.live [.int .u64 (b:Int),.nils])) 2 (.live [.int .u64 0,.nils])) 22 (.live (List.map (fun d:Nat=>AV.int .u64 (d:Int)) (q.2.1))),86⟩)
      (fun q=>q.1≤x.length+1∧q.2.1.length=x.length+1∧(∀ d ∈ q.2.1,d<18446744073709551616)∧q.2.2≤1∧dOf 18446744073709551616 q.2.1+18446744073709551616^q.1*q.2.2=dOf 18446744073709551616 x+dOf 18446744073709551616 (y.take q.1)) (fun q=>x.length+1-q.1) (0,x++[0],0) 40
      Has.z (Kept.of rfl KT.z KM.z) ⟨by simp,by simp,by intro d hd; rcases List.mem_append.1 hd with hd|hd; exact (hxd d hd); simp at hd; omega,by simp,by simp [dOf_append,dOf]⟩ 86 (by kernel_rfl) ?_
     rintro ⟨k,z,c⟩ ⟨q1,q2,q3,q4,q5⟩
     simp only [] at q1 q2 q3 q4 q5
     have fin:dOf 18446744073709551616 z=a+b→CSpec P 108 [.imm z.length (List.map (fun d:Nat=>AV.int .u64 (d:Int)) (z))] (.agg [.opq (.nat (a+b)),.pad]):=fun h=>h ▸ cut_spec hP z q3 (by omega)
     have htk:z.take (x.length+1)=z:=List.take_of_length_le (by omega)
     have hsl:x.length+1<4611686018427387904:=by omega
     have hz3:(∀ d ∈ z,d<18446744073709551616)=True:=eq_true q3
     have hall:=hxd
     by_cases hk:k<x.length+1
     · have hkz:k<z.length:=by omega
       have hzd:=q3 _ (getD_mem hkz)
       have hw:=wi_add1 k (by omega)
       have hset:=dOf_set 18446744073709551616 z k
       by_cases hky:k<y.length
       · have e1:y ≠ []:=by intro e; rw [e] at hky; simp at hky
         have hky':k≤y.length:=by omega
         simp only [go_sem,hk,hky,hky',hkz,gU hkz,gU' hky,q4,hzd,hw,sv_ia e1]
         have hs:=hset (addl (z.getD k 0) (y.getD k 0) c) hkz
         have hst:=add_step (18446744073709551616^k) (z.getD k 0) (y.getD k 0) c _ _ _ q5 hs
         have hyk:=hyd _ (getD_mem hky)
         refine ⟨(k+1,z.set k (addl (z.getD k 0) (y.getD k 0) c),addh (z.getD k 0) (y.getD k 0) c),Kept.of rfl KT.z KM.z,⟨by simp only []; omega,by simp only [List.length_set]; omega,?_,addh_le hzd hyk q4,?_⟩,by simp only []; omega⟩
         · intro d hd
           rcases List.mem_or_eq_of_mem_set hd with hd|rfl
           · exact q3 d hd
           · exact addl_lt _ _ _
         · simp only []
           rw [dOf_take_succ 18446744073709551616 y k hky,Nat.pow_succ]; exact hst
       · have htke:y.take k=y:=List.take_of_length_le (by omega)
         have htke1:y.take (k+1)=y:=List.take_of_length_le (by omega)
         by_cases hc:c=0
         · have hc':(c == 0)=true:=by rw [hc]; rfl
           simp only [go_sem,hk,hky,hc',htk,q2,hz3,hsl]
           rw [hc,htke,hx,hy] at q5
           have e:dOf 18446744073709551616 z=a+b:=by simp only [Nat.mul_zero,Nat.add_zero] at q5; omega
           rw [e]; exact .refl _
         · have hc':(c == 0)=false:=by simpa using hc
           simp only [go_sem,hk,hky,hc',hkz,gU hkz,q4,hzd,hw]
           have hs:=hset (addl (z.getD k 0) 0 c) hkz
           have hst:=add_step (18446744073709551616^k) (z.getD k 0) 0 c _ _ _ q5 hs
           refine ⟨(k+1,z.set k (addl (z.getD k 0) 0 c),addh (z.getD k 0) 0 c),Kept.of rfl KT.z KM.z,⟨by simp only []; omega,by simp only [List.length_set]; omega,?_,addh_le hzd (by decide) q4,?_⟩,by simp only []; omega⟩
           · intro d hd
             rcases List.mem_or_eq_of_mem_set hd with hd|rfl
             · exact q3 d hd
             · exact addl_lt _ _ _
           · simp only []
             rw [htke] at hst
             rw [htke1,Nat.pow_succ]; exact hst
     · simp only [go_sem,hk,htk,q2,hz3,hsl]
       have hkn:k=x.length+1:=by omega
       have htke:y.take k=y:=List.take_of_length_le (by omega)
       rw [htke] at q5
       have l1:=dOf_lt 18446744073709551616 x hxd
       have l2:=dOf_lt 18446744073709551616 y hyd
       have l3:=Nat.pow_le_pow_right (by decide:0<18446744073709551616) hyx
       have l4:18446744073709551616^k=18446744073709551616^x.length*18446744073709551616:=by rw [hkn,Nat.pow_succ]
       have hc:c=0:=by
        rcases Nat.eq_zero_or_pos c with h|h
        · exact h
        · obtain rfl:c=1:=by omega
          omega
       have e:dOf 18446744073709551616 z=a+b:=by rw [hc,hx,hy] at q5; simp only [Nat.mul_zero,Nat.add_zero] at q5; omega
       rw [e]; exact .refl _
   · rw [natC_great h1,natC_great h2]
     have hl4:=digs_length_gt 18446744073709551616 b 1 (by decide) (by omega)
     have hl5:2≤(digs 18446744073709551616 b).length:=by omega
     have hl6:((digs 18446744073709551616 b).length ≠ 0)=True:=eq_true (by omega)
     by_cases hl':(digs 18446744073709551616 a).length<(digs 18446744073709551616 b).length
     · refine CSpec_go (E:=⟨T0,Sb⟩) (fn104 hP) HE hP.mix ?_
       simp only [go_sem,hl',hl2,hl3,hl5,hl6]
       generalize digs 18446744073709551616 a=x at *
       generalize digs 18446744073709551616 b=y at *
       have hi:=wi_add1 y.length (by omega)
       have hi2:y.length+1≤1099511627776:=by omega
       have hi3:y.length≤y.length+1:=by omega
       simp only [go_sem,hi,hi2,hi3]
       have hyx:x.length≤y.length:=by omega
       refine trX_loop HE hP.mix [26,2,1,0] (fun q:Nat × List Nat × Nat=>⟨upd (upd (upd (upd (upd (upd (fun _=>.junk) 4 (.ref 2 0)) 8 (sv x)) 9 (.sl 26 0 (y.length+1) 1)) 10 (.int .u64 (q.2.2:Int))) 56 (.int .i64 ((y.length+1:Nat):Int))) 57 (.int .i64 (q.1:Int)),upd (upd (upd (upd (fun _=>.unused) 0 (.live [.int .u64 0,.imm x.length (List.map (fun d:Nat=>AV.int .u64 (d:Int)) (x))])) 1 (.live [.int .u64 0,.imm y.length (List.map (fun d:Nat=>AV.int .u64 (d:Int)) (y))])) 2 (.live [.int .u64 0,.nils])) 26 (.live (List.map (fun d:Nat=>AV.int .u64 (d:Int)) (q.2.1))),86⟩)
        (fun q=>q.1≤y.length+1∧q.2.1.length=y.length+1∧(∀ d ∈ q.2.1,d<18446744073709551616)∧q.2.2≤1∧dOf 18446744073709551616 q.2.1+18446744073709551616^q.1*q.2.2=dOf 18446744073709551616 y+dOf 18446744073709551616 (x.take q.1)) (fun q=>y.length+1-q.1) (0,y++[0],0) 40
        Has.z (Kept.of rfl KT.z KM.z) ⟨by simp,by simp,by intro d hd; rcases List.mem_append.1 hd with hd|hd; exact (hyd d hd); simp at hd; omega,by simp,by simp [dOf_append,dOf]⟩ 86 (by kernel_rfl) ?_
       rintro ⟨k,z,c⟩ ⟨q1,q2,q3,q4,q5⟩
       simp only [] at q1 q2 q3 q4 q5
       have fin:dOf 18446744073709551616 z=a+b→CSpec P 108 [.imm z.length (List.map (fun d:Nat=>AV.int .u64 (d:Int)) (z))] (.agg [.opq (.nat (a+b)),.pad]):=fun h=>h ▸ cut_spec hP z q3 (by omega)
       have htk:z.take (y.length+1)=z:=List.take_of_length_le (by omega)
       have hsl:y.length+1<4611686018427387904:=by omega
       have hz3:(∀ d ∈ z,d<18446744073709551616)=True:=eq_true q3
       have hall:=hyd
       by_cases hk:k<y.length+1
       · have hkz:k<z.length:=by omega
         have hzd:=q3 _ (getD_mem hkz)
         have hw:=wi_add1 k (by omega)
         have hset:=dOf_set 18446744073709551616 z k
         by_cases hky:k<x.length
         · have e1:x ≠ []:=by intro e; rw [e] at hky; simp at hky
           have hky':k≤x.length:=by omega
           simp only [go_sem,hk,hky,hky',hkz,gU hkz,gU' hky,q4,hzd,hw,sv_ia e1]
           have hs:=hset (addl (z.getD k 0) (x.getD k 0) c) hkz
           have hst:=add_step (18446744073709551616^k) (z.getD k 0) (x.getD k 0) c _ _ _ q5 hs
           have hyk:=hxd _ (getD_mem hky)
           refine ⟨(k+1,z.set k (addl (z.getD k 0) (x.getD k 0) c),addh (z.getD k 0) (x.getD k 0) c),Kept.of rfl KT.z KM.z,⟨by simp only []; omega,by simp only [List.length_set]; omega,?_,addh_le hzd hyk q4,?_⟩,by simp only []; omega⟩
           · intro d hd
             rcases List.mem_or_eq_of_mem_set hd with hd|rfl
             · exact q3 d hd
             · exact addl_lt _ _ _
           · simp only []
             rw [dOf_take_succ 18446744073709551616 x k hky,Nat.pow_succ]; exact hst
         · have htke:x.take k=x:=List.take_of_length_le (by omega)
           have htke1:x.take (k+1)=x:=List.take_of_length_le (by omega)
           by_cases hc:c=0
           · have hc':(c == 0)=true:=by rw [hc]; rfl
             simp only [go_sem,hk,hky,hc',htk,q2,hz3,hsl]
             rw [hc,htke,hy,hx] at q5
             have e:dOf 18446744073709551616 z=a+b:=by simp only [Nat.mul_zero,Nat.add_zero] at q5; omega
             rw [e]; exact .refl _
           · have hc':(c == 0)=false:=by simpa using hc
             simp only [go_sem,hk,hky,hc',hkz,gU hkz,q4,hzd,hw]
             have hs:=hset (addl (z.getD k 0) 0 c) hkz
             have hst:=add_step (18446744073709551616^k) (z.getD k 0) 0 c _ _ _ q5 hs
             refine ⟨(k+1,z.set k (addl (z.getD k 0) 0 c),addh (z.getD k 0) 0 c),Kept.of rfl KT.z KM.z,⟨by simp only []; omega,by simp only [List.length_set]; omega,?_,addh_le hzd (by decide) q4,?_⟩,by simp only []; omega⟩
             · intro d hd
               rcases List.mem_or_eq_of_mem_set hd with hd|rfl
               · exact q3 d hd
               · exact addl_lt _ _ _
             · simp only []
               rw [htke] at hst
               rw [htke1,Nat.pow_succ]; exact hst
       · simp only [go_sem,hk,htk,q2,hz3,hsl]
         have hkn:k=y.length+1:=by omega
         have htke:x.take k=x:=List.take_of_length_le (by omega)
         rw [htke] at q5
         have l1:=dOf_lt 18446744073709551616 y hyd
         have l2:=dOf_lt 18446744073709551616 x hxd
         have l3:=Nat.pow_le_pow_right (by decide:0<18446744073709551616) hyx
         have l4:18446744073709551616^k=18446744073709551616^y.length*18446744073709551616:=by rw [hkn,Nat.pow_succ]
         have hc:c=0:=by
          rcases Nat.eq_zero_or_pos c with h|h
          · exact h
          · obtain rfl:c=1:=by omega
            omega
         have e:dOf 18446744073709551616 z=a+b:=by rw [hc,hy,hx] at q5; simp only [Nat.mul_zero,Nat.add_zero] at q5; omega
         rw [e]; exact .refl _
     · refine CSpec_go (E:=⟨T0,Sb⟩) (fn104 hP) HE hP.mix ?_
       simp only [go_sem,hl',hl2,hl3,hl5,hl6]
       generalize digs 18446744073709551616 a=x at *
       generalize digs 18446744073709551616 b=y at *
       have hi:=wi_add1 x.length (by omega)
       have hi2:x.length+1≤1099511627776:=by omega
       have hi3:x.length≤x.length+1:=by omega
       simp only [go_sem,hi,hi2,hi3]
       have hyx:y.length≤x.length:=by omega
       refine trX_loop HE hP.mix [22,2,1,0] (fun q:Nat × List Nat × Nat=>⟨upd (upd (upd (upd (upd (upd (fun _=>.junk) 4 (.ref 2 0)) 8 (sv y)) 9 (.sl 22 0 (x.length+1) 1)) 10 (.int .u64 (q.2.2:Int))) 56 (.int .i64 ((x.length+1:Nat):Int))) 57 (.int .i64 (q.1:Int)),upd (upd (upd (upd (fun _=>.unused) 0 (.live [.int .u64 0,.imm x.length (List.map (fun d:Nat=>AV.int .u64 (d:Int)) (x))])) 1 (.live [.int .u64 0,.imm y.length (List.map (fun d:Nat=>AV.int .u64 (d:Int)) (y))])) 2 (.live [.int .u64 0,.nils])) 22 (.live (List.map (fun d:Nat=>AV.int .u64 (d:Int)) (q.2.1))),86⟩)
        (fun q=>q.1≤x.length+1∧q.2.1.length=x.length+1∧(∀ d ∈ q.2.1,d<18446744073709551616)∧q.2.2≤1∧dOf 18446744073709551616 q.2.1+18446744073709551616^q.1*q.2.2=dOf 18446744073709551616 x+dOf 18446744073709551616 (y.take q.1)) (fun q=>x.length+1-q.1) (0,x++[0],0) 40
        Has.z (Kept.of rfl KT.z KM.z) ⟨by simp,by simp,by intro d hd; rcases List.mem_append.1 hd with hd|hd; exact (hxd d hd); simp at hd; omega,by simp,by simp [dOf_append,dOf]⟩ 86 (by kernel_rfl) ?_
       rintro ⟨k,z,c⟩ ⟨q1,q2,q3,q4,q5⟩
       simp only [] at q1 q2 q3 q4 q5
       have fin:dOf 18446744073709551616 z=a+b→CSpec P 108 [.imm z.length (List.map (fun d:Nat=>AV.int .u64 (d:Int)) (z))] (.agg [.opq (.nat (a+b)),.pad]):=fun h=>h ▸ cut_spec hP z q3 (by omega)
       have htk:z.take (x.length+1)=z:=List.take_of_length_le (by omega)
       have hsl:x.length+1<4611686018427387904:=by omega
       have hz3:(∀ d ∈ z,d<18446744073709551616)=True:=eq_true q3
       have hall:=hxd
       by_cases hk:k<x.length+1
       · have hkz:k<z.length:=by omega
         have hzd:=q3 _ (getD_mem hkz)
         have hw:=wi_add1 k (by omega)
         have hset:=dOf_set 18446744073709551616 z k
         by_cases hky:k<y.length
         · have e1:y ≠ []:=by intro e; rw [e] at hky; simp at hky
           have hky':k≤y.length:=by omega
           simp only [go_sem,hk,hky,hky',hkz,gU hkz,gU' hky,q4,hzd,hw,sv_ia e1]
           have hs:=hset (addl (z.getD k 0) (y.getD k 0) c) hkz
           have hst:=add_step (18446744073709551616^k) (z.getD k 0) (y.getD k 0) c _ _ _ q5 hs
           have hyk:=hyd _ (getD_mem hky)
           refine ⟨(k+1,z.set k (addl (z.getD k 0) (y.getD k 0) c),addh (z.getD k 0) (y.getD k 0) c),Kept.of rfl KT.z KM.z,⟨by simp only []; omega,by simp only [List.length_set]; omega,?_,addh_le hzd hyk q4,?_⟩,by simp only []; omega⟩
           · intro d hd
             rcases List.mem_or_eq_of_mem_set hd with hd|rfl
             · exact q3 d hd
             · exact addl_lt _ _ _
           · simp only []
             rw [dOf_take_succ 18446744073709551616 y k hky,Nat.pow_succ]; exact hst
         · have htke:y.take k=y:=List.take_of_length_le (by omega)
           have htke1:y.take (k+1)=y:=List.take_of_length_le (by omega)
           by_cases hc:c=0
           · have hc':(c == 0)=true:=by rw [hc]; rfl
             simp only [go_sem,hk,hky,hc',htk,q2,hz3,hsl]
             rw [hc,htke,hx,hy] at q5
             have e:dOf 18446744073709551616 z=a+b:=by simp only [Nat.mul_zero,Nat.add_zero] at q5; omega
             rw [e]; exact .refl _
           · have hc':(c == 0)=false:=by simpa using hc
             simp only [go_sem,hk,hky,hc',hkz,gU hkz,q4,hzd,hw]
             have hs:=hset (addl (z.getD k 0) 0 c) hkz
             have hst:=add_step (18446744073709551616^k) (z.getD k 0) 0 c _ _ _ q5 hs
             refine ⟨(k+1,z.set k (addl (z.getD k 0) 0 c),addh (z.getD k 0) 0 c),Kept.of rfl KT.z KM.z,⟨by simp only []; omega,by simp only [List.length_set]; omega,?_,addh_le hzd (by decide) q4,?_⟩,by simp only []; omega⟩
             · intro d hd
               rcases List.mem_or_eq_of_mem_set hd with hd|rfl
               · exact q3 d hd
               · exact addl_lt _ _ _
             · simp only []
               rw [htke] at hst
               rw [htke1,Nat.pow_succ]; exact hst
       · simp only [go_sem,hk,htk,q2,hz3,hsl]
         have hkn:k=x.length+1:=by omega
         have htke:y.take k=y:=List.take_of_length_le (by omega)
         rw [htke] at q5
         have l1:=dOf_lt 18446744073709551616 x hxd
         have l2:=dOf_lt 18446744073709551616 y hyd
         have l3:=Nat.pow_le_pow_right (by decide:0<18446744073709551616) hyx
         have l4:18446744073709551616^k=18446744073709551616^x.length*18446744073709551616:=by rw [hkn,Nat.pow_succ]
         have hc:c=0:=by
          rcases Nat.eq_zero_or_pos c with h|h
          · exact h
          · obtain rfl:c=1:=by omega
            omega
         have e:dOf 18446744073709551616 z=a+b:=by rw [hc,hx,hy] at q5; simp only [Nat.mul_zero,Nat.add_zero] at q5; omega
         rw [e]; exact .refl _
theorem Add_spec (hP:PrgOk P) (a b:Nat) (ha:blen a≤68719476736) (hb:blen b≤68719476736):CSpec P 104 [(.agg [.opq (.nat (a)),.pad]),(.agg [.opq (.nat (b)),.pad])] (.agg [.opq (.nat (a+b)),.pad]):=by
 refine CSpec.cv ?_ (CvL.natIn a (CvL.natIn b .nil))
 by_cases h:a<18446744073709551616∧b<18446744073709551616
 · rw [natC_small h.1,natC_small h.2]; exact Add_small hP a b h.1 h.2
 · exact Add_great hP a b ha hb h
def AddS:List AV→Option (Prop × AV):=on2 fun a b=>(blen a≤68719476736∧blen b≤68719476736,(.agg [.opq (.nat (a+b)),.pad]))
theorem AddS_ok (hP:PrgOk P) (args p r):AddS args=some (p,r)→p→CSpec P 104 args r:=on2_ok (fun a b h=>by exact Add_spec hP a b h.1 h.2) args p r
attribute [go_sem] AddS
theorem Sub_less (hP:PrgOk P) (a b:Nat) (ha:blen a≤68719476736) (hb:blen b≤68719476736) (h:a<b):CSpec P 102 [(.agg [.opq (.nat (a)),.pad]),(.agg [.opq (.nat (b)),.pad])] (.tup [(.agg [.opq (.nat (0)),.pad]),.int .i64 10]):=by
 have HE:=Sb_ok hP
 refine CSpec_go (E:=⟨T0,Sb⟩) (fn102 hP) HE hP.mix ?_
 have hc:decide (cmpI a b<0)=true:=by rw [cmpI_lt h]; rfl
 simp only [go_sem,ha,hb,hc]
 exact CvL.conv (CvL.tup (by have:=CvL.natOut 0 (xs:=[.int .i64 10]) (CvL.refl _); rw [natC_small (by decide)] at this; exact this) .nil)
theorem Sub_ok (hP:PrgOk P) (a b:Nat) (ha:blen a≤68719476736) (hb:blen b≤68719476736) (h:b≤a):CSpec P 102 [(.agg [.opq (.nat (a)),.pad]),(.agg [.opq (.nat (b)),.pad])] (.tup [(.agg [.opq (.nat (a-b)),.pad]),.int .i64 0]):=by
 have HE:=Sb_ok hP
 have hc:decide (cmpI a b<0)=false:=by
  rcases Nat.lt_or_ge b a with h'|h'
  · rw [cmpI_gt h']; rfl
  · rw [Nat.le_antisymm h h',cmpI_eq]; rfl
 refine CSpec.cv ?_ (CvL.natIn a (CvL.natIn b .nil))
 by_cases h1:a<18446744073709551616
 · have h2:b<18446744073709551616:=by omega
   rw [natC_small h1,natC_small h2]
   have hs:=wu_sub a b h h1
   refine CSpec_go (E:=⟨T0,Sb⟩) (fn102 hP) HE hP.mix ?_
   simp only [go_sem,ha,hb,hc,h1,h2,hs]
   exact CvL.conv (CvL.tup (by have:=CvL.natOut (a-b) (xs:=[.int .i64 0]) (CvL.refl _); rw [natC_small (by omega)] at this; exact this) .nil)
 · rw [natC_great h1]
   have hxd:∀ d ∈ digs 18446744073709551616 a,d<18446744073709551616:=digs_lt 18446744073709551616 a (by decide)
   have hyd:∀ d ∈ digs 18446744073709551616 b,d<18446744073709551616:=digs_lt 18446744073709551616 b (by decide)
   have hx:=dOf_digs 18446744073709551616 a (by decide)
   have hy:=dOf_digs 18446744073709551616 b (by decide)
   have hlx:=digs_len_blen a
   have hgt:=digs_len_lt 18446744073709551616 a b (by decide)
   have hyx:(digs 18446744073709551616 b).length≤(digs 18446744073709551616 a).length:=by omega
   have hl:=digs_length_gt 18446744073709551616 a 1 (by decide) (by omega)
   have hl2:2≤(digs 18446744073709551616 a).length:=by omega
   have hl3:((digs 18446744073709551616 a).length ≠ 0)=True:=eq_true (by omega)
   have hl4:(digs 18446744073709551616 a).length≤1099511627776:=by omega
   by_cases h2:b<18446744073709551616
   · rw [natC_small h2]
     refine CSpec_go (E:=⟨T0,Sb⟩) (fn102 hP) HE hP.mix ?_
     simp only [go_sem,ha,hb,hc,h2,hl2,hl3,hl4]
     generalize digs 18446744073709551616 a=x at *
     generalize digs 18446744073709551616 b=y at *
     refine trX_loop HE hP.mix [14,2,1,0] (fun q:Nat × List Nat × Nat=>⟨upd (upd (upd (upd (upd (upd (fun _=>.junk) 4 (.ref 2 0)) 7 (sv y)) 6 (.sl 14 0 x.length 1)) 8 (.int .u64 (q.2.2:Int))) 36 (.int .i64 (x.length:Int))) 37 (.int .i64 (q.1:Int)),upd (upd (upd (upd (fun _=>.unused) 0 (.live [.int .u64 0,.imm x.length (List.map (fun d:Nat=>AV.int .u64 (d:Int)) (x))])) 1 (.live [.int .u64 (b:Int),.nils])) 2 (.live [.int .u64 0,.nils])) 14 (.live (List.map (fun d:Nat=>AV.int .u64 (d:Int)) (q.2.1))),66⟩)
      (fun q=>q.1≤x.length∧q.2.1.length=x.length∧(∀ d ∈ q.2.1,d<18446744073709551616)∧q.2.2≤1∧dOf 18446744073709551616 q.2.1+dOf 18446744073709551616 (y.take q.1)=dOf 18446744073709551616 x+18446744073709551616^q.1*q.2.2) (fun q=>x.length-q.1) (0,x,0) 40
      Has.z (Kept.of rfl KT.z KM.z) ⟨by simp,by simp,hxd,by simp,by simp [dOf]⟩ 66 (by kernel_rfl) ?_
     rintro ⟨k,z,c⟩ ⟨q1,q2,q3,q4,q5⟩
     simp only [] at q1 q2 q3 q4 q5
     have htk:z.take x.length=z:=List.take_of_length_le (by omega)
     have hsl:x.length<4611686018427387904:=by omega
     have hz3:(∀ d ∈ z,d<18446744073709551616)=True:=eq_true q3
     by_cases hk:k<x.length
     · have hkz:k<z.length:=by omega
       have hzd:=q3 _ (getD_mem hkz)
       have hw:=wi_add1 k (by omega)
       have hset:=dOf_set 18446744073709551616 z k
       by_cases hky:k<y.length
       · have e1:y ≠ []:=by intro e; rw [e] at hky; simp at hky
         have hky':k≤y.length:=by omega
         have hyk:=hyd _ (getD_mem hky)
         simp only [go_sem,hk,hky,hky',hkz,gU hkz,gU' hky,q4,hzd,hw,sv_ia e1]
         have hs:=hset (subd (z.getD k 0) (y.getD k 0) c) hkz
         have hst:=sub_step (18446744073709551616^k) (z.getD k 0) (y.getD k 0) c _ _ _ hzd hyk q4 q5 hs
         refine ⟨(k+1,z.set k (subd (z.getD k 0) (y.getD k 0) c),bor (z.getD k 0) (y.getD k 0) c),Kept.of rfl KT.z KM.z,⟨by simp only []; omega,by simp only [List.length_set]; omega,?_,bor_le _ _ _,?_⟩,by simp only []; omega⟩
         · intro d hd
           rcases List.mem_or_eq_of_mem_set hd with hd|rfl
           · exact q3 d hd
           · exact subd_lt _ _ _
         · simp only []
           rw [dOf_take_succ 18446744073709551616 y k hky,Nat.pow_succ]; exact hst
       · have htke:y.take k=y:=List.take_of_length_le (by omega)
         have htke1:y.take (k+1)=y:=List.take_of_length_le (by omega)
         by_cases hc0:c=0
         · have hc':(c == 0)=true:=by rw [hc0]; rfl
           simp only [go_sem,hk,hky,hc',htk,q2,hz3,hsl]
           rw [hc0,htke,hx,hy] at q5
           have e:dOf 18446744073709551616 z=a-b:=by simp only [Nat.mul_zero,Nat.add_zero] at q5; omega
           rw [e]; exact .refl _
         · have hc':(c == 0)=false:=by simpa using hc0
           simp only [go_sem,hk,hky,hc',hkz,gU hkz,q4,hzd,hw]
           have hs:=hset (subd (z.getD k 0) 0 c) hkz
           have hst:=sub_step (18446744073709551616^k) (z.getD k 0) 0 c _ _ _ hzd (by decide) q4 q5 hs
           refine ⟨(k+1,z.set k (subd (z.getD k 0) 0 c),bor (z.getD k 0) 0 c),Kept.of rfl KT.z KM.z,⟨by simp only []; omega,by simp only [List.length_set]; omega,?_,bor_le _ _ _,?_⟩,by simp only []; omega⟩
           · intro d hd
             rcases List.mem_or_eq_of_mem_set hd with hd|rfl
             · exact q3 d hd
             · exact subd_lt _ _ _
           · simp only []
             rw [htke] at hst
             rw [htke1,Nat.pow_succ]; exact hst
     · simp only [go_sem,hk,htk,q2,hz3,hsl]
       have hkn:k=x.length:=by omega
       have htke:y.take k=y:=List.take_of_length_le (by omega)
       rw [htke] at q5
       have l1:=dOf_lt 18446744073709551616 z q3
       rw [q2,← hkn] at l1
       have hc0:c=0:=by
        rcases Nat.eq_zero_or_pos c with h|h
        · exact h
        · obtain rfl:c=1:=by omega
          omega
       have e:dOf 18446744073709551616 z=a-b:=by rw [hc0,hx,hy] at q5; simp only [Nat.mul_zero,Nat.add_zero] at q5; omega
       rw [e]; exact .refl _
   · rw [natC_great h2]
     have hl4':=digs_length_gt 18446744073709551616 b 1 (by decide) (by omega)
     have hl5:2≤(digs 18446744073709551616 b).length:=by omega
     have hl6:((digs 18446744073709551616 b).length ≠ 0)=True:=eq_true (by omega)
     refine CSpec_go (E:=⟨T0,Sb⟩) (fn102 hP) HE hP.mix ?_
     simp only [go_sem,ha,hb,hc,hl2,hl3,hl4,hl5,hl6]
     generalize digs 18446744073709551616 a=x at *
     generalize digs 18446744073709551616 b=y at *
     refine trX_loop HE hP.mix [14,2,1,0] (fun q:Nat × List Nat × Nat=>⟨upd (upd (upd (upd (upd (upd (fun _=>.junk) 4 (.ref 2 0)) 7 (sv y)) 6 (.sl 14 0 x.length 1)) 8 (.int .u64 (q.2.2:Int))) 36 (.int .i64 (x.length:Int))) 37 (.int .i64 (q.1:Int)),upd (upd (upd (upd (fun _=>.unused) 0 (.live [.int .u64 0,.imm x.length (List.map (fun d:Nat=>AV.int .u64 (d:Int)) (x))])) 1 (.live [.int .u64 0,.imm y.length (List.map (fun d:Nat=>AV.int .u64 (d:Int)) (y))])) 2 (.live [.int .u64 0,.nils])) 14 (.live (List.map (fun d:Nat=>AV.int .u64 (d:Int)) (q.2.1))),66⟩)
      (fun q=>q.1≤x.length∧q.2.1.length=x.length∧(∀ d ∈ q.2.1,d<18446744073709551616)∧q.2.2≤1∧dOf 18446744073709551616 q.2.1+dOf 18446744073709551616 (y.take q.1)=dOf 18446744073709551616 x+18446744073709551616^q.1*q.2.2) (fun q=>x.length-q.1) (0,x,0) 40
      Has.z (Kept.of rfl KT.z KM.z) ⟨by simp,by simp,hxd,by simp,by simp [dOf]⟩ 66 (by kernel_rfl) ?_
     rintro ⟨k,z,c⟩ ⟨q1,q2,q3,q4,q5⟩
     simp only [] at q1 q2 q3 q4 q5
     have htk:z.take x.length=z:=List.take_of_length_le (by omega)
     have hsl:x.length<4611686018427387904:=by omega
     have hz3:(∀ d ∈ z,d<18446744073709551616)=True:=eq_true q3
     by_cases hk:k<x.length
     · have hkz:k<z.length:=by omega
       have hzd:=q3 _ (getD_mem hkz)
       have hw:=wi_add1 k (by omega)
       have hset:=dOf_set 18446744073709551616 z k
       by_cases hky:k<y.length
       · have e1:y ≠ []:=by intro e; rw [e] at hky; simp at hky
         have hky':k≤y.length:=by omega
         have hyk:=hyd _ (getD_mem hky)
         simp only [go_sem,hk,hky,hky',hkz,gU hkz,gU' hky,q4,hzd,hw,sv_ia e1]
         have hs:=hset (subd (z.getD k 0) (y.getD k 0) c) hkz
         have hst:=sub_step (18446744073709551616^k) (z.getD k 0) (y.getD k 0) c _ _ _ hzd hyk q4 q5 hs
         refine ⟨(k+1,z.set k (subd (z.getD k 0) (y.getD k 0) c),bor (z.getD k 0) (y.getD k 0) c),Kept.of rfl KT.z KM.z,⟨by simp only []; omega,by simp only [List.length_set]; omega,?_,bor_le _ _ _,?_⟩,by simp only []; omega⟩
         · intro d hd
           rcases List.mem_or_eq_of_mem_set hd with hd|rfl
           · exact q3 d hd
           · exact subd_lt _ _ _
         · simp only []
           rw [dOf_take_succ 18446744073709551616 y k hky,Nat.pow_succ]; exact hst
       · have htke:y.take k=y:=List.take_of_length_le (by omega)
         have htke1:y.take (k+1)=y:=List.take_of_length_le (by omega)
         by_cases hc0:c=0
         · have hc':(c == 0)=true:=by rw [hc0]; rfl
           simp only [go_sem,hk,hky,hc',htk,q2,hz3,hsl]
           rw [hc0,htke,hx,hy] at q5
           have e:dOf 18446744073709551616 z=a-b:=by simp only [Nat.mul_zero,Nat.add_zero] at q5; omega
           rw [e]; exact .refl _
         · have hc':(c == 0)=false:=by simpa using hc0
           simp only [go_sem,hk,hky,hc',hkz,gU hkz,q4,hzd,hw]
           have hs:=hset (subd (z.getD k 0) 0 c) hkz
           have hst:=sub_step (18446744073709551616^k) (z.getD k 0) 0 c _ _ _ hzd (by decide) q4 q5 hs
           refine ⟨(k+1,z.set k (subd (z.getD k 0) 0 c),bor (z.getD k 0) 0 c),Kept.of rfl KT.z KM.z,⟨by simp only []; omega,by simp only [List.length_set]; omega,?_,bor_le _ _ _,?_⟩,by simp only []; omega⟩
           · intro d hd
             rcases List.mem_or_eq_of_mem_set hd with hd|rfl
             · exact q3 d hd
             · exact subd_lt _ _ _
           · simp only []
             rw [htke] at hst
             rw [htke1,Nat.pow_succ]; exact hst
     · simp only [go_sem,hk,htk,q2,hz3,hsl]
       have hkn:k=x.length:=by omega
       have htke:y.take k=y:=List.take_of_length_le (by omega)
       rw [htke] at q5
       have l1:=dOf_lt 18446744073709551616 z q3
       rw [q2,← hkn] at l1
       have hc0:c=0:=by
        rcases Nat.eq_zero_or_pos c with h|h
        · exact h
        · obtain rfl:c=1:=by omega
          omega
       have e:dOf 18446744073709551616 z=a-b:=by rw [hc0,hx,hy] at q5; simp only [Nat.mul_zero,Nat.add_zero] at q5; omega
       rw [e]; exact .refl _
def SubS:List AV→Option (Prop × AV):=on2 fun a b=>(blen a≤68719476736∧blen b≤68719476736,if a<b then .tup [(.agg [.opq (.nat (0)),.pad]),.int .i64 10] else .tup [(.agg [.opq (.nat (a-b)),.pad]),.int .i64 0])
theorem SubS_ok (hP:PrgOk P) (args p r):SubS args=some (p,r)→p→CSpec P 102 args r:=on2_ok (fun a b h=>by
 by_cases hlt:a<b
 · simp only [if_pos hlt]; exact Sub_less hP a b h.1 h.2 hlt
 · simp only [if_neg hlt]; exact Sub_ok hP a b h.1 h.2 (by omega)) args p r
attribute [go_sem] SubS
end Go.Proofs.YtapddfjimhohcaaGreatDoor.AM
