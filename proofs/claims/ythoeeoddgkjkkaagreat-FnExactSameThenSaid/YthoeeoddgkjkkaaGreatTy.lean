/- Facts on the types of this seat, by program (gen_ty.py). -/
import Derived.Test.YthoeeoddgkjkkaaGreatVmU
import Derived.Test.YthoeeoddgkjkkaaGreatRows
namespace Go.Proofs.YthoeeoddgkjkkaaGreat
set_option linter.unusedSimpArgs false
set_option linter.unusedVariables false
open Go.Vm
theorem mixed : Tryz.prog.follows .mixedOrders = true:=by kernel_rfl
@[go_sem] theorem ty2_size : tySize Tryz.prog 2 = some 1:=by kernel_rfl
@[go_sem] theorem ty2_agg : tyAgg Tryz.prog 2 = some false:=by kernel_rfl
@[go_sem] theorem ty2_bytes : tyBytes Tryz.prog 2 = some 8:=by kernel_rfl
@[go_sem] theorem ty2_z : tyZ Tryz.prog 2 = some [.v (.int .i64 0)]:=by kernel_rfl
attribute [go_sem] Tryz.underlying2
@[go_sem] theorem ty3_size : tySize Tryz.prog 3 = some 1:=by kernel_rfl
@[go_sem] theorem ty3_agg : tyAgg Tryz.prog 3 = some false:=by kernel_rfl
@[go_sem] theorem ty3_bytes : tyBytes Tryz.prog 3 = some 8:=by kernel_rfl
@[go_sem] theorem ty3_z : tyZ Tryz.prog 3 = some [.v (.int .i64 0)]:=by kernel_rfl
attribute [go_sem] Tryz.underlying3
@[go_sem] theorem ty4_size : tySize Tryz.prog 4 = some 1:=by kernel_rfl
@[go_sem] theorem ty4_agg : tyAgg Tryz.prog 4 = some false:=by kernel_rfl
@[go_sem] theorem ty4_bytes : tyBytes Tryz.prog 4 = some 1:=by kernel_rfl
@[go_sem] theorem ty4_z : tyZ Tryz.prog 4 = some [.v (.bool false)]:=by kernel_rfl
attribute [go_sem] Tryz.underlying4
@[go_sem] theorem ty5_size : tySize Tryz.prog 5 = some 1:=by kernel_rfl
@[go_sem] theorem ty5_agg : tyAgg Tryz.prog 5 = some false:=by kernel_rfl
@[go_sem] theorem ty5_bytes : tyBytes Tryz.prog 5 = some 1:=by kernel_rfl
@[go_sem] theorem ty5_z : tyZ Tryz.prog 5 = some [.v (.int .u8 0)]:=by kernel_rfl
attribute [go_sem] Tryz.underlying5
@[go_sem] theorem ty9_size : tySize Tryz.prog 9 = some 1:=by kernel_rfl
@[go_sem] theorem ty9_agg : tyAgg Tryz.prog 9 = some false:=by kernel_rfl
@[go_sem] theorem ty9_bytes : tyBytes Tryz.prog 9 = some 16:=by kernel_rfl
@[go_sem] theorem ty9_z : tyZ Tryz.prog 9 = some [.v (.string ByteArray.empty)]:=by kernel_rfl
attribute [go_sem] Tryz.underlying9
@[go_sem] theorem ty12_size : tySize Tryz.prog 12 = some 1:=by kernel_rfl
@[go_sem] theorem ty12_agg : tyAgg Tryz.prog 12 = some false:=by kernel_rfl
@[go_sem] theorem ty12_bytes : tyBytes Tryz.prog 12 = some 8:=by kernel_rfl
@[go_sem] theorem ty12_z : tyZ Tryz.prog 12 = some [.v (.int .u64 0)]:=by kernel_rfl
attribute [go_sem] Tryz.underlying12
@[go_sem] theorem ty21_size : tySize Tryz.prog 21 = some 1:=by kernel_rfl
@[go_sem] theorem ty21_agg : tyAgg Tryz.prog 21 = some false:=by kernel_rfl
@[go_sem] theorem ty21_bytes : tyBytes Tryz.prog 21 = some 4:=by kernel_rfl
@[go_sem] theorem ty21_z : tyZ Tryz.prog 21 = some [.v (.int .i32 0)]:=by kernel_rfl
attribute [go_sem] Tryz.underlying21
@[go_sem] theorem ty22_size : tySize Tryz.prog 22 = some 1:=by kernel_rfl
@[go_sem] theorem ty22_agg : tyAgg Tryz.prog 22 = some false:=by kernel_rfl
@[go_sem] theorem ty22_bytes : tyBytes Tryz.prog 22 = some 24:=by kernel_rfl
@[go_sem] theorem ty22_z : tyZ Tryz.prog 22 = some [.v (.slice none 0 0)]:=by kernel_rfl
@[go_sem] theorem ty22_elem : tyElem Tryz.prog 22 = some 3:=by kernel_rfl
attribute [go_sem] Tryz.underlying22
@[go_sem] theorem ty24_size : tySize Tryz.prog 24 = some 3:=by kernel_rfl
@[go_sem] theorem ty24_agg : tyAgg Tryz.prog 24 = some true:=by kernel_rfl
@[go_sem] theorem ty24_bytes : tyBytes Tryz.prog 24 = some 40:=by kernel_rfl
@[go_sem] theorem ty24_z : tyZ Tryz.prog 24 = some [.v (.slice none 0 0),.v (.int .i64 0),.v (.int .i64 0)]:=by kernel_rfl
@[go_sem] theorem ty24_fok : fieldsOk Tryz.prog 24 = true:=by kernel_rfl
@[go_sem] theorem ty24_f0 : tyField Tryz.prog 24 0 = some (0,22):=by kernel_rfl
@[go_sem] theorem ty24_f1 : tyField Tryz.prog 24 1 = some (1,3):=by kernel_rfl
@[go_sem] theorem ty24_f2 : tyField Tryz.prog 24 2 = some (2,3):=by kernel_rfl
attribute [go_sem] Tryz.underlying24
@[go_sem] theorem ty25_size : tySize Tryz.prog 25 = some 1:=by kernel_rfl
@[go_sem] theorem ty25_agg : tyAgg Tryz.prog 25 = some false:=by kernel_rfl
@[go_sem] theorem ty25_bytes : tyBytes Tryz.prog 25 = some 24:=by kernel_rfl
@[go_sem] theorem ty25_z : tyZ Tryz.prog 25 = some [.v (.slice none 0 0)]:=by kernel_rfl
@[go_sem] theorem ty25_elem : tyElem Tryz.prog 25 = some 53:=by kernel_rfl
attribute [go_sem] Tryz.underlying25
@[go_sem] theorem ty27_size : tySize Tryz.prog 27 = some 2:=by kernel_rfl
@[go_sem] theorem ty27_agg : tyAgg Tryz.prog 27 = some true:=by kernel_rfl
@[go_sem] theorem ty27_bytes : tyBytes Tryz.prog 27 = some 32:=by kernel_rfl
@[go_sem] theorem ty27_z : tyZ Tryz.prog 27 = some [.v (.int .i64 0),.v (.slice none 0 0)]:=by kernel_rfl
@[go_sem] theorem ty27_fok : fieldsOk Tryz.prog 27 = true:=by kernel_rfl
@[go_sem] theorem ty27_f0 : tyField Tryz.prog 27 0 = some (0,3):=by kernel_rfl
@[go_sem] theorem ty27_f1 : tyField Tryz.prog 27 1 = some (1,25):=by kernel_rfl
attribute [go_sem] Tryz.underlying27
@[go_sem] theorem ty28_size : tySize Tryz.prog 28 = some 1:=by kernel_rfl
@[go_sem] theorem ty28_agg : tyAgg Tryz.prog 28 = some false:=by kernel_rfl
@[go_sem] theorem ty28_bytes : tyBytes Tryz.prog 28 = some 24:=by kernel_rfl
@[go_sem] theorem ty28_z : tyZ Tryz.prog 28 = some [.v (.slice none 0 0)]:=by kernel_rfl
@[go_sem] theorem ty28_elem : tyElem Tryz.prog 28 = some 148:=by kernel_rfl
attribute [go_sem] Tryz.underlying28
@[go_sem] theorem ty29_size : tySize Tryz.prog 29 = some 1:=by kernel_rfl
@[go_sem] theorem ty29_agg : tyAgg Tryz.prog 29 = some false:=by kernel_rfl
@[go_sem] theorem ty29_bytes : tyBytes Tryz.prog 29 = some 24:=by kernel_rfl
@[go_sem] theorem ty29_z : tyZ Tryz.prog 29 = some [.v (.slice none 0 0)]:=by kernel_rfl
@[go_sem] theorem ty29_elem : tyElem Tryz.prog 29 = some 170:=by kernel_rfl
attribute [go_sem] Tryz.underlying29
@[go_sem] theorem ty30_size : tySize Tryz.prog 30 = some 1:=by kernel_rfl
@[go_sem] theorem ty30_agg : tyAgg Tryz.prog 30 = some false:=by kernel_rfl
@[go_sem] theorem ty30_bytes : tyBytes Tryz.prog 30 = some 24:=by kernel_rfl
@[go_sem] theorem ty30_z : tyZ Tryz.prog 30 = some [.v (.slice none 0 0)]:=by kernel_rfl
@[go_sem] theorem ty30_elem : tyElem Tryz.prog 30 = some 153:=by kernel_rfl
attribute [go_sem] Tryz.underlying30
@[go_sem] theorem ty31_size : tySize Tryz.prog 31 = some 1:=by kernel_rfl
@[go_sem] theorem ty31_agg : tyAgg Tryz.prog 31 = some false:=by kernel_rfl
@[go_sem] theorem ty31_bytes : tyBytes Tryz.prog 31 = some 24:=by kernel_rfl
@[go_sem] theorem ty31_z : tyZ Tryz.prog 31 = some [.v (.slice none 0 0)]:=by kernel_rfl
@[go_sem] theorem ty31_elem : tyElem Tryz.prog 31 = some 158:=by kernel_rfl
attribute [go_sem] Tryz.underlying31
@[go_sem] theorem ty33_size : tySize Tryz.prog 33 = some 14:=by kernel_rfl
@[go_sem] theorem ty33_agg : tyAgg Tryz.prog 33 = some true:=by kernel_rfl
@[go_sem] theorem ty33_bytes : tyBytes Tryz.prog 33 = some 240:=by kernel_rfl
@[go_sem] theorem ty33_z : tyZ Tryz.prog 33 = some [.v (.slice none 0 0),.v (.int .i64 0),.v (.int .i64 0),.v (.int .i64 0),.v (.int .i64 0),.v (.int .i64 0),.v (.int .i64 0),.v (.slice none 0 0),.v (.slice none 0 0),.v (.slice none 0 0),.v (.slice none 0 0),.v (.slice none 0 0),.v (.slice none 0 0),.v (.slice none 0 0)]:=by kernel_rfl
@[go_sem] theorem ty33_fok : fieldsOk Tryz.prog 33 = true:=by kernel_rfl
@[go_sem] theorem ty33_f0 : tyField Tryz.prog 33 0 = some (0,24):=by kernel_rfl
@[go_sem] theorem ty33_f1 : tyField Tryz.prog 33 1 = some (3,3):=by kernel_rfl
@[go_sem] theorem ty33_f2 : tyField Tryz.prog 33 2 = some (4,3):=by kernel_rfl
@[go_sem] theorem ty33_f3 : tyField Tryz.prog 33 3 = some (5,3):=by kernel_rfl
@[go_sem] theorem ty33_f4 : tyField Tryz.prog 33 4 = some (6,27):=by kernel_rfl
@[go_sem] theorem ty33_f5 : tyField Tryz.prog 33 5 = some (8,28):=by kernel_rfl
@[go_sem] theorem ty33_f6 : tyField Tryz.prog 33 6 = some (9,22):=by kernel_rfl
@[go_sem] theorem ty33_f7 : tyField Tryz.prog 33 7 = some (10,29):=by kernel_rfl
@[go_sem] theorem ty33_f8 : tyField Tryz.prog 33 8 = some (11,22):=by kernel_rfl
@[go_sem] theorem ty33_f9 : tyField Tryz.prog 33 9 = some (12,30):=by kernel_rfl
@[go_sem] theorem ty33_f10 : tyField Tryz.prog 33 10 = some (13,31):=by kernel_rfl
attribute [go_sem] Tryz.underlying33
@[go_sem] theorem ty37_size : tySize Tryz.prog 37 = some 3:=by kernel_rfl
@[go_sem] theorem ty37_agg : tyAgg Tryz.prog 37 = some true:=by kernel_rfl
@[go_sem] theorem ty37_bytes : tyBytes Tryz.prog 37 = some 40:=by kernel_rfl
@[go_sem] theorem ty37_z : tyZ Tryz.prog 37 = some [.v (.slice none 0 0),.v (.int .i64 0),.v (.int .i64 0)]:=by kernel_rfl
@[go_sem] theorem ty37_fok : fieldsOk Tryz.prog 37 = true:=by kernel_rfl
@[go_sem] theorem ty37_f0 : tyField Tryz.prog 37 0 = some (0,22):=by kernel_rfl
@[go_sem] theorem ty37_f1 : tyField Tryz.prog 37 1 = some (1,3):=by kernel_rfl
@[go_sem] theorem ty37_f2 : tyField Tryz.prog 37 2 = some (2,3):=by kernel_rfl
attribute [go_sem] Tryz.underlying37
@[go_sem] theorem ty38_size : tySize Tryz.prog 38 = some 1:=by kernel_rfl
@[go_sem] theorem ty38_agg : tyAgg Tryz.prog 38 = some false:=by kernel_rfl
@[go_sem] theorem ty38_bytes : tyBytes Tryz.prog 38 = some 24:=by kernel_rfl
@[go_sem] theorem ty38_z : tyZ Tryz.prog 38 = some [.v (.slice none 0 0)]:=by kernel_rfl
@[go_sem] theorem ty38_elem : tyElem Tryz.prog 38 = some 56:=by kernel_rfl
attribute [go_sem] Tryz.underlying38
@[go_sem] theorem ty40_size : tySize Tryz.prog 40 = some 2:=by kernel_rfl
@[go_sem] theorem ty40_agg : tyAgg Tryz.prog 40 = some true:=by kernel_rfl
@[go_sem] theorem ty40_bytes : tyBytes Tryz.prog 40 = some 32:=by kernel_rfl
@[go_sem] theorem ty40_z : tyZ Tryz.prog 40 = some [.v (.int .i64 0),.v (.slice none 0 0)]:=by kernel_rfl
@[go_sem] theorem ty40_fok : fieldsOk Tryz.prog 40 = true:=by kernel_rfl
@[go_sem] theorem ty40_f0 : tyField Tryz.prog 40 0 = some (0,3):=by kernel_rfl
@[go_sem] theorem ty40_f1 : tyField Tryz.prog 40 1 = some (1,38):=by kernel_rfl
attribute [go_sem] Tryz.underlying40
@[go_sem] theorem ty41_size : tySize Tryz.prog 41 = some 1:=by kernel_rfl
@[go_sem] theorem ty41_agg : tyAgg Tryz.prog 41 = some false:=by kernel_rfl
@[go_sem] theorem ty41_bytes : tyBytes Tryz.prog 41 = some 24:=by kernel_rfl
@[go_sem] theorem ty41_z : tyZ Tryz.prog 41 = some [.v (.slice none 0 0)]:=by kernel_rfl
@[go_sem] theorem ty41_elem : tyElem Tryz.prog 41 = some 101:=by kernel_rfl
attribute [go_sem] Tryz.underlying41
@[go_sem] theorem ty42_size : tySize Tryz.prog 42 = some 1:=by kernel_rfl
@[go_sem] theorem ty42_agg : tyAgg Tryz.prog 42 = some false:=by kernel_rfl
@[go_sem] theorem ty42_bytes : tyBytes Tryz.prog 42 = some 24:=by kernel_rfl
@[go_sem] theorem ty42_z : tyZ Tryz.prog 42 = some [.v (.slice none 0 0)]:=by kernel_rfl
@[go_sem] theorem ty42_elem : tyElem Tryz.prog 42 = some 168:=by kernel_rfl
attribute [go_sem] Tryz.underlying42
@[go_sem] theorem ty43_size : tySize Tryz.prog 43 = some 1:=by kernel_rfl
@[go_sem] theorem ty43_agg : tyAgg Tryz.prog 43 = some false:=by kernel_rfl
@[go_sem] theorem ty43_bytes : tyBytes Tryz.prog 43 = some 24:=by kernel_rfl
@[go_sem] theorem ty43_z : tyZ Tryz.prog 43 = some [.v (.slice none 0 0)]:=by kernel_rfl
@[go_sem] theorem ty43_elem : tyElem Tryz.prog 43 = some 172:=by kernel_rfl
attribute [go_sem] Tryz.underlying43
@[go_sem] theorem ty44_size : tySize Tryz.prog 44 = some 1:=by kernel_rfl
@[go_sem] theorem ty44_agg : tyAgg Tryz.prog 44 = some false:=by kernel_rfl
@[go_sem] theorem ty44_bytes : tyBytes Tryz.prog 44 = some 24:=by kernel_rfl
@[go_sem] theorem ty44_z : tyZ Tryz.prog 44 = some [.v (.slice none 0 0)]:=by kernel_rfl
@[go_sem] theorem ty44_elem : tyElem Tryz.prog 44 = some 175:=by kernel_rfl
attribute [go_sem] Tryz.underlying44
@[go_sem] theorem ty46_size : tySize Tryz.prog 46 = some 14:=by kernel_rfl
@[go_sem] theorem ty46_agg : tyAgg Tryz.prog 46 = some true:=by kernel_rfl
@[go_sem] theorem ty46_bytes : tyBytes Tryz.prog 46 = some 240:=by kernel_rfl
@[go_sem] theorem ty46_z : tyZ Tryz.prog 46 = some [.v (.slice none 0 0),.v (.int .i64 0),.v (.int .i64 0),.v (.int .i64 0),.v (.int .i64 0),.v (.int .i64 0),.v (.int .i64 0),.v (.slice none 0 0),.v (.slice none 0 0),.v (.slice none 0 0),.v (.slice none 0 0),.v (.slice none 0 0),.v (.slice none 0 0),.v (.slice none 0 0)]:=by kernel_rfl
@[go_sem] theorem ty46_fok : fieldsOk Tryz.prog 46 = true:=by kernel_rfl
@[go_sem] theorem ty46_f0 : tyField Tryz.prog 46 0 = some (0,37):=by kernel_rfl
@[go_sem] theorem ty46_f1 : tyField Tryz.prog 46 1 = some (3,3):=by kernel_rfl
@[go_sem] theorem ty46_f2 : tyField Tryz.prog 46 2 = some (4,3):=by kernel_rfl
@[go_sem] theorem ty46_f3 : tyField Tryz.prog 46 3 = some (5,3):=by kernel_rfl
@[go_sem] theorem ty46_f4 : tyField Tryz.prog 46 4 = some (6,40):=by kernel_rfl
@[go_sem] theorem ty46_f5 : tyField Tryz.prog 46 5 = some (8,41):=by kernel_rfl
@[go_sem] theorem ty46_f6 : tyField Tryz.prog 46 6 = some (9,22):=by kernel_rfl
@[go_sem] theorem ty46_f7 : tyField Tryz.prog 46 7 = some (10,42):=by kernel_rfl
@[go_sem] theorem ty46_f8 : tyField Tryz.prog 46 8 = some (11,22):=by kernel_rfl
@[go_sem] theorem ty46_f9 : tyField Tryz.prog 46 9 = some (12,43):=by kernel_rfl
@[go_sem] theorem ty46_f10 : tyField Tryz.prog 46 10 = some (13,44):=by kernel_rfl
attribute [go_sem] Tryz.underlying46
@[go_sem] theorem ty53_size : tySize Tryz.prog 53 = some 5:=by kernel_rfl
@[go_sem] theorem ty53_agg : tyAgg Tryz.prog 53 = some true:=by kernel_rfl
@[go_sem] theorem ty53_bytes : tyBytes Tryz.prog 53 = some 40:=by kernel_rfl
@[go_sem] theorem ty53_z : tyZ Tryz.prog 53 = some [.v (.int .i64 0),.v (.int .i64 0),.v (.int .i64 0),.v (.int .i64 0),.v (.int .i64 0)]:=by kernel_rfl
@[go_sem] theorem ty53_fok : fieldsOk Tryz.prog 53 = true:=by kernel_rfl
@[go_sem] theorem ty53_f0 : tyField Tryz.prog 53 0 = some (0,3):=by kernel_rfl
@[go_sem] theorem ty53_f1 : tyField Tryz.prog 53 1 = some (1,3):=by kernel_rfl
@[go_sem] theorem ty53_f2 : tyField Tryz.prog 53 2 = some (2,3):=by kernel_rfl
@[go_sem] theorem ty53_f3 : tyField Tryz.prog 53 3 = some (3,3):=by kernel_rfl
@[go_sem] theorem ty53_f4 : tyField Tryz.prog 53 4 = some (4,3):=by kernel_rfl
attribute [go_sem] Tryz.underlying53
@[go_sem] theorem ty54_size : tySize Tryz.prog 54 = some 1:=by kernel_rfl
@[go_sem] theorem ty54_agg : tyAgg Tryz.prog 54 = some false:=by kernel_rfl
@[go_sem] theorem ty54_bytes : tyBytes Tryz.prog 54 = some 24:=by kernel_rfl
@[go_sem] theorem ty54_z : tyZ Tryz.prog 54 = some [.v (.slice none 0 0)]:=by kernel_rfl
@[go_sem] theorem ty54_elem : tyElem Tryz.prog 54 = some 121:=by kernel_rfl
attribute [go_sem] Tryz.underlying54
@[go_sem] theorem ty56_size : tySize Tryz.prog 56 = some 5:=by kernel_rfl
@[go_sem] theorem ty56_agg : tyAgg Tryz.prog 56 = some true:=by kernel_rfl
@[go_sem] theorem ty56_bytes : tyBytes Tryz.prog 56 = some 40:=by kernel_rfl
@[go_sem] theorem ty56_z : tyZ Tryz.prog 56 = some [.v (.int .i64 0),.v (.int .i64 0),.v (.int .i64 0),.v (.int .i64 0),.v (.int .i64 0)]:=by kernel_rfl
@[go_sem] theorem ty56_fok : fieldsOk Tryz.prog 56 = true:=by kernel_rfl
@[go_sem] theorem ty56_eqs : eqShape Tryz.prog 56 = some [.int .i64,.int .i64,.int .i64,.int .i64,.int .i64]:=by kernel_rfl
@[go_sem] theorem ty56_f0 : tyField Tryz.prog 56 0 = some (0,3):=by kernel_rfl
@[go_sem] theorem ty56_f1 : tyField Tryz.prog 56 1 = some (1,3):=by kernel_rfl
@[go_sem] theorem ty56_f2 : tyField Tryz.prog 56 2 = some (2,3):=by kernel_rfl
@[go_sem] theorem ty56_f3 : tyField Tryz.prog 56 3 = some (3,3):=by kernel_rfl
@[go_sem] theorem ty56_f4 : tyField Tryz.prog 56 4 = some (4,3):=by kernel_rfl
attribute [go_sem] Tryz.underlying56
@[go_sem] theorem ty65_size : tySize Tryz.prog 65 = some 3:=by kernel_rfl
@[go_sem] theorem ty65_agg : tyAgg Tryz.prog 65 = some true:=by kernel_rfl
@[go_sem] theorem ty65_bytes : tyBytes Tryz.prog 65 = some 32:=by kernel_rfl
@[go_sem] theorem ty65_z : tyZ Tryz.prog 65 = some [.v (.int .i64 0),.v (.int .i64 0),.v (.string ByteArray.empty)]:=by kernel_rfl
@[go_sem] theorem ty65_fok : fieldsOk Tryz.prog 65 = true:=by kernel_rfl
@[go_sem] theorem ty65_f0 : tyField Tryz.prog 65 0 = some (0,3):=by kernel_rfl
@[go_sem] theorem ty65_f1 : tyField Tryz.prog 65 1 = some (1,3):=by kernel_rfl
@[go_sem] theorem ty65_f2 : tyField Tryz.prog 65 2 = some (2,9):=by kernel_rfl
attribute [go_sem] Tryz.underlying65
@[go_sem] theorem ty66_size : tySize Tryz.prog 66 = some 1:=by kernel_rfl
@[go_sem] theorem ty66_agg : tyAgg Tryz.prog 66 = some false:=by kernel_rfl
@[go_sem] theorem ty66_bytes : tyBytes Tryz.prog 66 = some 24:=by kernel_rfl
@[go_sem] theorem ty66_z : tyZ Tryz.prog 66 = some [.v (.slice none 0 0)]:=by kernel_rfl
@[go_sem] theorem ty66_elem : tyElem Tryz.prog 66 = some 68:=by kernel_rfl
attribute [go_sem] Tryz.underlying66
@[go_sem] theorem ty68_size : tySize Tryz.prog 68 = some 7:=by kernel_rfl
@[go_sem] theorem ty68_agg : tyAgg Tryz.prog 68 = some true:=by kernel_rfl
@[go_sem] theorem ty68_bytes : tyBytes Tryz.prog 68 = some 80:=by kernel_rfl
@[go_sem] theorem ty68_z : tyZ Tryz.prog 68 = some [.v (.int .i64 0),.v (.int .i64 0),.v (.int .i64 0),.v (.int .i64 0),.v (.int .i64 0),.v (.string ByteArray.empty),.v (.slice none 0 0)]:=by kernel_rfl
@[go_sem] theorem ty68_fok : fieldsOk Tryz.prog 68 = true:=by kernel_rfl
@[go_sem] theorem ty68_f0 : tyField Tryz.prog 68 0 = some (0,3):=by kernel_rfl
@[go_sem] theorem ty68_f1 : tyField Tryz.prog 68 1 = some (1,3):=by kernel_rfl
@[go_sem] theorem ty68_f2 : tyField Tryz.prog 68 2 = some (2,3):=by kernel_rfl
@[go_sem] theorem ty68_f3 : tyField Tryz.prog 68 3 = some (3,65):=by kernel_rfl
@[go_sem] theorem ty68_f4 : tyField Tryz.prog 68 4 = some (6,66):=by kernel_rfl
attribute [go_sem] Tryz.underlying68
@[go_sem] theorem ty70_size : tySize Tryz.prog 70 = some 10:=by kernel_rfl
@[go_sem] theorem ty70_agg : tyAgg Tryz.prog 70 = some true:=by kernel_rfl
@[go_sem] theorem ty70_bytes : tyBytes Tryz.prog 70 = some 120:=by kernel_rfl
@[go_sem] theorem ty70_z : tyZ Tryz.prog 70 = some [.v (.int .i64 0),.v (.int .i64 0),.v (.int .i64 0),.v (.int .i64 0),.v (.int .i64 0),.v (.int .i64 0),.v (.string ByteArray.empty),.v (.slice none 0 0),.v (.int .i64 0),.v (.slice none 0 0)]:=by kernel_rfl
@[go_sem] theorem ty70_fok : fieldsOk Tryz.prog 70 = true:=by kernel_rfl
@[go_sem] theorem ty70_f0 : tyField Tryz.prog 70 0 = some (0,3):=by kernel_rfl
@[go_sem] theorem ty70_f1 : tyField Tryz.prog 70 1 = some (1,68):=by kernel_rfl
@[go_sem] theorem ty70_f2 : tyField Tryz.prog 70 2 = some (8,3):=by kernel_rfl
@[go_sem] theorem ty70_f3 : tyField Tryz.prog 70 3 = some (9,22):=by kernel_rfl
attribute [go_sem] Tryz.underlying70
@[go_sem] theorem ty72_size : tySize Tryz.prog 72 = some 3:=by kernel_rfl
@[go_sem] theorem ty72_agg : tyAgg Tryz.prog 72 = some true:=by kernel_rfl
@[go_sem] theorem ty72_bytes : tyBytes Tryz.prog 72 = some 32:=by kernel_rfl
@[go_sem] theorem ty72_z : tyZ Tryz.prog 72 = some [.v (.int .i64 0),.v (.int .i64 0),.v (.string ByteArray.empty)]:=by kernel_rfl
@[go_sem] theorem ty72_fok : fieldsOk Tryz.prog 72 = true:=by kernel_rfl
@[go_sem] theorem ty72_eqs : eqShape Tryz.prog 72 = some [.int .i64,.int .i64,.str]:=by kernel_rfl
@[go_sem] theorem ty72_f0 : tyField Tryz.prog 72 0 = some (0,3):=by kernel_rfl
@[go_sem] theorem ty72_f1 : tyField Tryz.prog 72 1 = some (1,3):=by kernel_rfl
@[go_sem] theorem ty72_f2 : tyField Tryz.prog 72 2 = some (2,9):=by kernel_rfl
attribute [go_sem] Tryz.underlying72
@[go_sem] theorem ty74_size : tySize Tryz.prog 74 = some 6:=by kernel_rfl
@[go_sem] theorem ty74_agg : tyAgg Tryz.prog 74 = some true:=by kernel_rfl
@[go_sem] theorem ty74_bytes : tyBytes Tryz.prog 74 = some 72:=by kernel_rfl
@[go_sem] theorem ty74_z : tyZ Tryz.prog 74 = some [.v (.slice none 0 0),.v (.int .i64 0),.v (.bool false),.v (.int .i64 0),.v (.int .i64 0),.v (.string ByteArray.empty)]:=by kernel_rfl
@[go_sem] theorem ty74_fok : fieldsOk Tryz.prog 74 = true:=by kernel_rfl
@[go_sem] theorem ty74_f0 : tyField Tryz.prog 74 0 = some (0,54):=by kernel_rfl
@[go_sem] theorem ty74_f1 : tyField Tryz.prog 74 1 = some (1,3):=by kernel_rfl
@[go_sem] theorem ty74_f2 : tyField Tryz.prog 74 2 = some (2,4):=by kernel_rfl
@[go_sem] theorem ty74_f3 : tyField Tryz.prog 74 3 = some (3,72):=by kernel_rfl
attribute [go_sem] Tryz.underlying74
@[go_sem] theorem ty76_size : tySize Tryz.prog 76 = some 1:=by kernel_rfl
@[go_sem] theorem ty76_agg : tyAgg Tryz.prog 76 = some false:=by kernel_rfl
@[go_sem] theorem ty76_bytes : tyBytes Tryz.prog 76 = some 24:=by kernel_rfl
@[go_sem] theorem ty76_z : tyZ Tryz.prog 76 = some [.v (.slice none 0 0)]:=by kernel_rfl
@[go_sem] theorem ty76_elem : tyElem Tryz.prog 76 = some 78:=by kernel_rfl
attribute [go_sem] Tryz.underlying76
@[go_sem] theorem ty78_size : tySize Tryz.prog 78 = some 7:=by kernel_rfl
@[go_sem] theorem ty78_agg : tyAgg Tryz.prog 78 = some true:=by kernel_rfl
@[go_sem] theorem ty78_bytes : tyBytes Tryz.prog 78 = some 80:=by kernel_rfl
@[go_sem] theorem ty78_z : tyZ Tryz.prog 78 = some [.v (.int .i64 0),.v (.int .i64 0),.v (.int .i64 0),.v (.int .i64 0),.v (.int .i64 0),.v (.string ByteArray.empty),.v (.slice none 0 0)]:=by kernel_rfl
@[go_sem] theorem ty78_fok : fieldsOk Tryz.prog 78 = true:=by kernel_rfl
@[go_sem] theorem ty78_f0 : tyField Tryz.prog 78 0 = some (0,3):=by kernel_rfl
@[go_sem] theorem ty78_f1 : tyField Tryz.prog 78 1 = some (1,3):=by kernel_rfl
@[go_sem] theorem ty78_f2 : tyField Tryz.prog 78 2 = some (2,3):=by kernel_rfl
@[go_sem] theorem ty78_f3 : tyField Tryz.prog 78 3 = some (3,72):=by kernel_rfl
@[go_sem] theorem ty78_f4 : tyField Tryz.prog 78 4 = some (6,76):=by kernel_rfl
attribute [go_sem] Tryz.underlying78
@[go_sem] theorem ty80_size : tySize Tryz.prog 80 = some 10:=by kernel_rfl
@[go_sem] theorem ty80_agg : tyAgg Tryz.prog 80 = some true:=by kernel_rfl
@[go_sem] theorem ty80_bytes : tyBytes Tryz.prog 80 = some 120:=by kernel_rfl
@[go_sem] theorem ty80_z : tyZ Tryz.prog 80 = some [.v (.int .i64 0),.v (.int .i64 0),.v (.int .i64 0),.v (.int .i64 0),.v (.int .i64 0),.v (.int .i64 0),.v (.string ByteArray.empty),.v (.slice none 0 0),.v (.int .i64 0),.v (.slice none 0 0)]:=by kernel_rfl
@[go_sem] theorem ty80_fok : fieldsOk Tryz.prog 80 = true:=by kernel_rfl
@[go_sem] theorem ty80_f0 : tyField Tryz.prog 80 0 = some (0,3):=by kernel_rfl
@[go_sem] theorem ty80_f1 : tyField Tryz.prog 80 1 = some (1,78):=by kernel_rfl
@[go_sem] theorem ty80_f2 : tyField Tryz.prog 80 2 = some (8,3):=by kernel_rfl
@[go_sem] theorem ty80_f3 : tyField Tryz.prog 80 3 = some (9,22):=by kernel_rfl
attribute [go_sem] Tryz.underlying80
@[go_sem] theorem ty96_size : tySize Tryz.prog 96 = some 1:=by kernel_rfl
@[go_sem] theorem ty96_agg : tyAgg Tryz.prog 96 = some false:=by kernel_rfl
@[go_sem] theorem ty96_bytes : tyBytes Tryz.prog 96 = some 24:=by kernel_rfl
@[go_sem] theorem ty96_z : tyZ Tryz.prog 96 = some [.v (.slice none 0 0)]:=by kernel_rfl
@[go_sem] theorem ty96_elem : tyElem Tryz.prog 96 = some 162:=by kernel_rfl
attribute [go_sem] Tryz.underlying96
@[go_sem] theorem ty98_size : tySize Tryz.prog 98 = some 2:=by kernel_rfl
@[go_sem] theorem ty98_agg : tyAgg Tryz.prog 98 = some true:=by kernel_rfl
@[go_sem] theorem ty98_bytes : tyBytes Tryz.prog 98 = some 32:=by kernel_rfl
@[go_sem] theorem ty98_z : tyZ Tryz.prog 98 = some [.v (.int .i64 0),.v (.slice none 0 0)]:=by kernel_rfl
@[go_sem] theorem ty98_fok : fieldsOk Tryz.prog 98 = true:=by kernel_rfl
@[go_sem] theorem ty98_f0 : tyField Tryz.prog 98 0 = some (0,3):=by kernel_rfl
@[go_sem] theorem ty98_f1 : tyField Tryz.prog 98 1 = some (1,96):=by kernel_rfl
attribute [go_sem] Tryz.underlying98
@[go_sem] theorem ty99_size : tySize Tryz.prog 99 = some 1:=by kernel_rfl
@[go_sem] theorem ty99_agg : tyAgg Tryz.prog 99 = some false:=by kernel_rfl
@[go_sem] theorem ty99_bytes : tyBytes Tryz.prog 99 = some 24:=by kernel_rfl
@[go_sem] theorem ty99_z : tyZ Tryz.prog 99 = some [.v (.slice none 0 0)]:=by kernel_rfl
@[go_sem] theorem ty99_elem : tyElem Tryz.prog 99 = some 5:=by kernel_rfl
attribute [go_sem] Tryz.underlying99
@[go_sem] theorem ty101_size : tySize Tryz.prog 101 = some 5:=by kernel_rfl
@[go_sem] theorem ty101_agg : tyAgg Tryz.prog 101 = some true:=by kernel_rfl
@[go_sem] theorem ty101_bytes : tyBytes Tryz.prog 101 = some 72:=by kernel_rfl
@[go_sem] theorem ty101_z : tyZ Tryz.prog 101 = some [.v (.int .i64 0),.v (.int .i64 0),.v (.int .i64 0),.v (.slice none 0 0),.v (.slice none 0 0)]:=by kernel_rfl
@[go_sem] theorem ty101_fok : fieldsOk Tryz.prog 101 = true:=by kernel_rfl
@[go_sem] theorem ty101_f0 : tyField Tryz.prog 101 0 = some (0,3):=by kernel_rfl
@[go_sem] theorem ty101_f1 : tyField Tryz.prog 101 1 = some (1,3):=by kernel_rfl
@[go_sem] theorem ty101_f2 : tyField Tryz.prog 101 2 = some (2,98):=by kernel_rfl
@[go_sem] theorem ty101_f3 : tyField Tryz.prog 101 3 = some (4,99):=by kernel_rfl
attribute [go_sem] Tryz.underlying101
@[go_sem] theorem ty119_size : tySize Tryz.prog 119 = some 1:=by kernel_rfl
@[go_sem] theorem ty119_agg : tyAgg Tryz.prog 119 = some false:=by kernel_rfl
@[go_sem] theorem ty119_bytes : tyBytes Tryz.prog 119 = some 24:=by kernel_rfl
@[go_sem] theorem ty119_z : tyZ Tryz.prog 119 = some [.v (.slice none 0 0)]:=by kernel_rfl
@[go_sem] theorem ty119_elem : tyElem Tryz.prog 119 = some 72:=by kernel_rfl
attribute [go_sem] Tryz.underlying119
@[go_sem] theorem ty121_size : tySize Tryz.prog 121 = some 2:=by kernel_rfl
@[go_sem] theorem ty121_agg : tyAgg Tryz.prog 121 = some true:=by kernel_rfl
@[go_sem] theorem ty121_bytes : tyBytes Tryz.prog 121 = some 32:=by kernel_rfl
@[go_sem] theorem ty121_z : tyZ Tryz.prog 121 = some [.v (.int .i64 0),.v (.slice none 0 0)]:=by kernel_rfl
@[go_sem] theorem ty121_fok : fieldsOk Tryz.prog 121 = true:=by kernel_rfl
@[go_sem] theorem ty121_f0 : tyField Tryz.prog 121 0 = some (0,3):=by kernel_rfl
@[go_sem] theorem ty121_f1 : tyField Tryz.prog 121 1 = some (1,119):=by kernel_rfl
attribute [go_sem] Tryz.underlying121
@[go_sem] theorem ty144_size : tySize Tryz.prog 144 = some 1:=by kernel_rfl
@[go_sem] theorem ty144_agg : tyAgg Tryz.prog 144 = some false:=by kernel_rfl
@[go_sem] theorem ty144_bytes : tyBytes Tryz.prog 144 = some 24:=by kernel_rfl
@[go_sem] theorem ty144_z : tyZ Tryz.prog 144 = some [.v (.slice none 0 0)]:=by kernel_rfl
@[go_sem] theorem ty144_elem : tyElem Tryz.prog 144 = some 243:=by kernel_rfl
attribute [go_sem] Tryz.underlying144
@[go_sem] theorem ty146_size : tySize Tryz.prog 146 = some 2:=by kernel_rfl
@[go_sem] theorem ty146_agg : tyAgg Tryz.prog 146 = some true:=by kernel_rfl
@[go_sem] theorem ty146_bytes : tyBytes Tryz.prog 146 = some 32:=by kernel_rfl
@[go_sem] theorem ty146_z : tyZ Tryz.prog 146 = some [.v (.int .i64 0),.v (.slice none 0 0)]:=by kernel_rfl
@[go_sem] theorem ty146_fok : fieldsOk Tryz.prog 146 = true:=by kernel_rfl
@[go_sem] theorem ty146_f0 : tyField Tryz.prog 146 0 = some (0,3):=by kernel_rfl
@[go_sem] theorem ty146_f1 : tyField Tryz.prog 146 1 = some (1,144):=by kernel_rfl
attribute [go_sem] Tryz.underlying146
@[go_sem] theorem ty148_size : tySize Tryz.prog 148 = some 5:=by kernel_rfl
@[go_sem] theorem ty148_agg : tyAgg Tryz.prog 148 = some true:=by kernel_rfl
@[go_sem] theorem ty148_bytes : tyBytes Tryz.prog 148 = some 72:=by kernel_rfl
@[go_sem] theorem ty148_z : tyZ Tryz.prog 148 = some [.v (.int .i64 0),.v (.int .i64 0),.v (.int .i64 0),.v (.slice none 0 0),.v (.slice none 0 0)]:=by kernel_rfl
@[go_sem] theorem ty148_fok : fieldsOk Tryz.prog 148 = true:=by kernel_rfl
@[go_sem] theorem ty148_f0 : tyField Tryz.prog 148 0 = some (0,3):=by kernel_rfl
@[go_sem] theorem ty148_f1 : tyField Tryz.prog 148 1 = some (1,3):=by kernel_rfl
@[go_sem] theorem ty148_f2 : tyField Tryz.prog 148 2 = some (2,146):=by kernel_rfl
@[go_sem] theorem ty148_f3 : tyField Tryz.prog 148 3 = some (4,99):=by kernel_rfl
attribute [go_sem] Tryz.underlying148
@[go_sem] theorem ty150_size : tySize Tryz.prog 150 = some 1:=by kernel_rfl
@[go_sem] theorem ty150_agg : tyAgg Tryz.prog 150 = some false:=by kernel_rfl
@[go_sem] theorem ty150_bytes : tyBytes Tryz.prog 150 = some 24:=by kernel_rfl
@[go_sem] theorem ty150_z : tyZ Tryz.prog 150 = some [.v (.slice none 0 0)]:=by kernel_rfl
@[go_sem] theorem ty150_elem : tyElem Tryz.prog 150 = some 65:=by kernel_rfl
attribute [go_sem] Tryz.underlying150
@[go_sem] theorem ty151_size : tySize Tryz.prog 151 = some 1:=by kernel_rfl
@[go_sem] theorem ty151_agg : tyAgg Tryz.prog 151 = some false:=by kernel_rfl
@[go_sem] theorem ty151_bytes : tyBytes Tryz.prog 151 = some 24:=by kernel_rfl
@[go_sem] theorem ty151_z : tyZ Tryz.prog 151 = some [.v (.slice none 0 0)]:=by kernel_rfl
@[go_sem] theorem ty151_elem : tyElem Tryz.prog 151 = some 228:=by kernel_rfl
attribute [go_sem] Tryz.underlying151
@[go_sem] theorem ty153_size : tySize Tryz.prog 153 = some 25:=by kernel_rfl
@[go_sem] theorem ty153_agg : tyAgg Tryz.prog 153 = some true:=by kernel_rfl
@[go_sem] theorem ty153_bytes : tyBytes Tryz.prog 153 = some 288:=by kernel_rfl
@[go_sem] theorem ty153_z : tyZ Tryz.prog 153 = some [.v (.int .i64 0),.v (.int .i64 0),.v (.int .i64 0),.v (.slice none 0 0),.v (.int .i64 0),.v (.int .i64 0),.v (.int .i64 0),.v (.int .i64 0),.v (.int .i64 0),.v (.int .i64 0),.v (.int .i64 0),.v (.string ByteArray.empty),.v (.slice none 0 0),.v (.int .i64 0),.v (.slice none 0 0),.v (.int .i64 0),.v (.int .i64 0),.v (.slice none 0 0),.v (.int .i64 0),.v (.int .i64 0),.v (.int .i64 0),.v (.int .i64 0),.v (.int .i64 0),.v (.bool false),.v (.slice none 0 0)]:=by kernel_rfl
@[go_sem] theorem ty153_fok : fieldsOk Tryz.prog 153 = true:=by kernel_rfl
@[go_sem] theorem ty153_f0 : tyField Tryz.prog 153 0 = some (0,3):=by kernel_rfl
@[go_sem] theorem ty153_f1 : tyField Tryz.prog 153 1 = some (1,3):=by kernel_rfl
@[go_sem] theorem ty153_f2 : tyField Tryz.prog 153 2 = some (2,3):=by kernel_rfl
@[go_sem] theorem ty153_f3 : tyField Tryz.prog 153 3 = some (3,150):=by kernel_rfl
@[go_sem] theorem ty153_f4 : tyField Tryz.prog 153 4 = some (4,3):=by kernel_rfl
@[go_sem] theorem ty153_f5 : tyField Tryz.prog 153 5 = some (5,70):=by kernel_rfl
@[go_sem] theorem ty153_f6 : tyField Tryz.prog 153 6 = some (15,3):=by kernel_rfl
@[go_sem] theorem ty153_f7 : tyField Tryz.prog 153 7 = some (16,3):=by kernel_rfl
@[go_sem] theorem ty153_f8 : tyField Tryz.prog 153 8 = some (17,25):=by kernel_rfl
@[go_sem] theorem ty153_f9 : tyField Tryz.prog 153 9 = some (18,3):=by kernel_rfl
@[go_sem] theorem ty153_f10 : tyField Tryz.prog 153 10 = some (19,3):=by kernel_rfl
@[go_sem] theorem ty153_f11 : tyField Tryz.prog 153 11 = some (20,3):=by kernel_rfl
@[go_sem] theorem ty153_f12 : tyField Tryz.prog 153 12 = some (21,3):=by kernel_rfl
@[go_sem] theorem ty153_f13 : tyField Tryz.prog 153 13 = some (22,3):=by kernel_rfl
@[go_sem] theorem ty153_f14 : tyField Tryz.prog 153 14 = some (23,4):=by kernel_rfl
@[go_sem] theorem ty153_f15 : tyField Tryz.prog 153 15 = some (24,151):=by kernel_rfl
attribute [go_sem] Tryz.underlying153
@[go_sem] theorem ty156_size : tySize Tryz.prog 156 = some 6:=by kernel_rfl
@[go_sem] theorem ty156_agg : tyAgg Tryz.prog 156 = some true:=by kernel_rfl
@[go_sem] theorem ty156_bytes : tyBytes Tryz.prog 156 = some 72:=by kernel_rfl
@[go_sem] theorem ty156_z : tyZ Tryz.prog 156 = some [.v (.slice none 0 0),.v (.int .i64 0),.v (.bool false),.v (.int .i64 0),.v (.int .i64 0),.v (.string ByteArray.empty)]:=by kernel_rfl
@[go_sem] theorem ty156_fok : fieldsOk Tryz.prog 156 = true:=by kernel_rfl
@[go_sem] theorem ty156_f0 : tyField Tryz.prog 156 0 = some (0,151):=by kernel_rfl
@[go_sem] theorem ty156_f1 : tyField Tryz.prog 156 1 = some (1,3):=by kernel_rfl
@[go_sem] theorem ty156_f2 : tyField Tryz.prog 156 2 = some (2,4):=by kernel_rfl
@[go_sem] theorem ty156_f3 : tyField Tryz.prog 156 3 = some (3,65):=by kernel_rfl
attribute [go_sem] Tryz.underlying156
@[go_sem] theorem ty158_size : tySize Tryz.prog 158 = some 25:=by kernel_rfl
@[go_sem] theorem ty158_agg : tyAgg Tryz.prog 158 = some true:=by kernel_rfl
@[go_sem] theorem ty158_bytes : tyBytes Tryz.prog 158 = some 280:=by kernel_rfl
@[go_sem] theorem ty158_z : tyZ Tryz.prog 158 = some [.v (.int .i64 0),.v (.int .i64 0),.v (.slice none 0 0),.v (.int .i64 0),.v (.int .i64 0),.v (.int .i64 0),.v (.int .i64 0),.v (.int .i64 0),.v (.int .i64 0),.v (.int .i64 0),.v (.string ByteArray.empty),.v (.slice none 0 0),.v (.int .i64 0),.v (.slice none 0 0),.v (.slice none 0 0),.v (.int .i64 0),.v (.bool false),.v (.int .i64 0),.v (.int .i64 0),.v (.string ByteArray.empty),.v (.int .i64 0),.v (.int .i64 0),.v (.int .i64 0),.v (.int .i64 0),.v (.int .i64 0)]:=by kernel_rfl
@[go_sem] theorem ty158_fok : fieldsOk Tryz.prog 158 = true:=by kernel_rfl
@[go_sem] theorem ty158_f0 : tyField Tryz.prog 158 0 = some (0,3):=by kernel_rfl
@[go_sem] theorem ty158_f1 : tyField Tryz.prog 158 1 = some (1,3):=by kernel_rfl
@[go_sem] theorem ty158_f2 : tyField Tryz.prog 158 2 = some (2,150):=by kernel_rfl
@[go_sem] theorem ty158_f3 : tyField Tryz.prog 158 3 = some (3,3):=by kernel_rfl
@[go_sem] theorem ty158_f4 : tyField Tryz.prog 158 4 = some (4,70):=by kernel_rfl
@[go_sem] theorem ty158_f5 : tyField Tryz.prog 158 5 = some (14,156):=by kernel_rfl
@[go_sem] theorem ty158_f6 : tyField Tryz.prog 158 6 = some (20,3):=by kernel_rfl
@[go_sem] theorem ty158_f7 : tyField Tryz.prog 158 7 = some (21,3):=by kernel_rfl
@[go_sem] theorem ty158_f8 : tyField Tryz.prog 158 8 = some (22,3):=by kernel_rfl
@[go_sem] theorem ty158_f9 : tyField Tryz.prog 158 9 = some (23,3):=by kernel_rfl
@[go_sem] theorem ty158_f10 : tyField Tryz.prog 158 10 = some (24,3):=by kernel_rfl
attribute [go_sem] Tryz.underlying158
@[go_sem] theorem ty162_size : tySize Tryz.prog 162 = some 2:=by kernel_rfl
@[go_sem] theorem ty162_agg : tyAgg Tryz.prog 162 = some true:=by kernel_rfl
@[go_sem] theorem ty162_bytes : tyBytes Tryz.prog 162 = some 32:=by kernel_rfl
@[go_sem] theorem ty162_z : tyZ Tryz.prog 162 = some [.v (.int .i64 0),.v (.slice none 0 0)]:=by kernel_rfl
@[go_sem] theorem ty162_fok : fieldsOk Tryz.prog 162 = true:=by kernel_rfl
@[go_sem] theorem ty162_f0 : tyField Tryz.prog 162 0 = some (0,3):=by kernel_rfl
@[go_sem] theorem ty162_f1 : tyField Tryz.prog 162 1 = some (1,119):=by kernel_rfl
attribute [go_sem] Tryz.underlying162
@[go_sem] theorem ty168_size : tySize Tryz.prog 168 = some 3:=by kernel_rfl
@[go_sem] theorem ty168_agg : tyAgg Tryz.prog 168 = some true:=by kernel_rfl
@[go_sem] theorem ty168_bytes : tyBytes Tryz.prog 168 = some 24:=by kernel_rfl
@[go_sem] theorem ty168_z : tyZ Tryz.prog 168 = some [.v (.int .i64 0),.v (.int .i64 0),.v (.int .i64 0)]:=by kernel_rfl
@[go_sem] theorem ty168_fok : fieldsOk Tryz.prog 168 = true:=by kernel_rfl
@[go_sem] theorem ty168_eqs : eqShape Tryz.prog 168 = some [.int .i64,.int .i64,.int .i64]:=by kernel_rfl
@[go_sem] theorem ty168_f0 : tyField Tryz.prog 168 0 = some (0,3):=by kernel_rfl
@[go_sem] theorem ty168_f1 : tyField Tryz.prog 168 1 = some (1,3):=by kernel_rfl
@[go_sem] theorem ty168_f2 : tyField Tryz.prog 168 2 = some (2,3):=by kernel_rfl
attribute [go_sem] Tryz.underlying168
@[go_sem] theorem ty170_size : tySize Tryz.prog 170 = some 3:=by kernel_rfl
@[go_sem] theorem ty170_agg : tyAgg Tryz.prog 170 = some true:=by kernel_rfl
@[go_sem] theorem ty170_bytes : tyBytes Tryz.prog 170 = some 24:=by kernel_rfl
@[go_sem] theorem ty170_z : tyZ Tryz.prog 170 = some [.v (.int .i64 0),.v (.int .i64 0),.v (.int .i64 0)]:=by kernel_rfl
@[go_sem] theorem ty170_fok : fieldsOk Tryz.prog 170 = true:=by kernel_rfl
@[go_sem] theorem ty170_f0 : tyField Tryz.prog 170 0 = some (0,3):=by kernel_rfl
@[go_sem] theorem ty170_f1 : tyField Tryz.prog 170 1 = some (1,3):=by kernel_rfl
@[go_sem] theorem ty170_f2 : tyField Tryz.prog 170 2 = some (2,3):=by kernel_rfl
attribute [go_sem] Tryz.underlying170
@[go_sem] theorem ty172_size : tySize Tryz.prog 172 = some 25:=by kernel_rfl
@[go_sem] theorem ty172_agg : tyAgg Tryz.prog 172 = some true:=by kernel_rfl
@[go_sem] theorem ty172_bytes : tyBytes Tryz.prog 172 = some 288:=by kernel_rfl
@[go_sem] theorem ty172_z : tyZ Tryz.prog 172 = some [.v (.int .i64 0),.v (.int .i64 0),.v (.int .i64 0),.v (.slice none 0 0),.v (.int .i64 0),.v (.int .i64 0),.v (.int .i64 0),.v (.int .i64 0),.v (.int .i64 0),.v (.int .i64 0),.v (.int .i64 0),.v (.string ByteArray.empty),.v (.slice none 0 0),.v (.int .i64 0),.v (.slice none 0 0),.v (.int .i64 0),.v (.int .i64 0),.v (.slice none 0 0),.v (.int .i64 0),.v (.int .i64 0),.v (.int .i64 0),.v (.int .i64 0),.v (.int .i64 0),.v (.bool false),.v (.slice none 0 0)]:=by kernel_rfl
@[go_sem] theorem ty172_fok : fieldsOk Tryz.prog 172 = true:=by kernel_rfl
@[go_sem] theorem ty172_f0 : tyField Tryz.prog 172 0 = some (0,3):=by kernel_rfl
@[go_sem] theorem ty172_f1 : tyField Tryz.prog 172 1 = some (1,3):=by kernel_rfl
@[go_sem] theorem ty172_f2 : tyField Tryz.prog 172 2 = some (2,3):=by kernel_rfl
@[go_sem] theorem ty172_f3 : tyField Tryz.prog 172 3 = some (3,119):=by kernel_rfl
@[go_sem] theorem ty172_f4 : tyField Tryz.prog 172 4 = some (4,3):=by kernel_rfl
@[go_sem] theorem ty172_f5 : tyField Tryz.prog 172 5 = some (5,80):=by kernel_rfl
@[go_sem] theorem ty172_f6 : tyField Tryz.prog 172 6 = some (15,3):=by kernel_rfl
@[go_sem] theorem ty172_f7 : tyField Tryz.prog 172 7 = some (16,3):=by kernel_rfl
@[go_sem] theorem ty172_f8 : tyField Tryz.prog 172 8 = some (17,38):=by kernel_rfl
@[go_sem] theorem ty172_f9 : tyField Tryz.prog 172 9 = some (18,3):=by kernel_rfl
@[go_sem] theorem ty172_f10 : tyField Tryz.prog 172 10 = some (19,3):=by kernel_rfl
@[go_sem] theorem ty172_f11 : tyField Tryz.prog 172 11 = some (20,3):=by kernel_rfl
@[go_sem] theorem ty172_f12 : tyField Tryz.prog 172 12 = some (21,3):=by kernel_rfl
@[go_sem] theorem ty172_f13 : tyField Tryz.prog 172 13 = some (22,3):=by kernel_rfl
@[go_sem] theorem ty172_f14 : tyField Tryz.prog 172 14 = some (23,4):=by kernel_rfl
@[go_sem] theorem ty172_f15 : tyField Tryz.prog 172 15 = some (24,54):=by kernel_rfl
attribute [go_sem] Tryz.underlying172
@[go_sem] theorem ty175_size : tySize Tryz.prog 175 = some 25:=by kernel_rfl
@[go_sem] theorem ty175_agg : tyAgg Tryz.prog 175 = some true:=by kernel_rfl
@[go_sem] theorem ty175_bytes : tyBytes Tryz.prog 175 = some 280:=by kernel_rfl
@[go_sem] theorem ty175_z : tyZ Tryz.prog 175 = some [.v (.int .i64 0),.v (.int .i64 0),.v (.slice none 0 0),.v (.int .i64 0),.v (.int .i64 0),.v (.int .i64 0),.v (.int .i64 0),.v (.int .i64 0),.v (.int .i64 0),.v (.int .i64 0),.v (.string ByteArray.empty),.v (.slice none 0 0),.v (.int .i64 0),.v (.slice none 0 0),.v (.slice none 0 0),.v (.int .i64 0),.v (.bool false),.v (.int .i64 0),.v (.int .i64 0),.v (.string ByteArray.empty),.v (.int .i64 0),.v (.int .i64 0),.v (.int .i64 0),.v (.int .i64 0),.v (.int .i64 0)]:=by kernel_rfl
@[go_sem] theorem ty175_fok : fieldsOk Tryz.prog 175 = true:=by kernel_rfl
@[go_sem] theorem ty175_f0 : tyField Tryz.prog 175 0 = some (0,3):=by kernel_rfl
@[go_sem] theorem ty175_f1 : tyField Tryz.prog 175 1 = some (1,3):=by kernel_rfl
@[go_sem] theorem ty175_f2 : tyField Tryz.prog 175 2 = some (2,119):=by kernel_rfl
@[go_sem] theorem ty175_f3 : tyField Tryz.prog 175 3 = some (3,3):=by kernel_rfl
@[go_sem] theorem ty175_f4 : tyField Tryz.prog 175 4 = some (4,80):=by kernel_rfl
@[go_sem] theorem ty175_f5 : tyField Tryz.prog 175 5 = some (14,74):=by kernel_rfl
@[go_sem] theorem ty175_f6 : tyField Tryz.prog 175 6 = some (20,3):=by kernel_rfl
@[go_sem] theorem ty175_f7 : tyField Tryz.prog 175 7 = some (21,3):=by kernel_rfl
@[go_sem] theorem ty175_f8 : tyField Tryz.prog 175 8 = some (22,3):=by kernel_rfl
@[go_sem] theorem ty175_f9 : tyField Tryz.prog 175 9 = some (23,3):=by kernel_rfl
@[go_sem] theorem ty175_f10 : tyField Tryz.prog 175 10 = some (24,3):=by kernel_rfl
attribute [go_sem] Tryz.underlying175
@[go_sem] theorem ty198_size : tySize Tryz.prog 198 = some 6:=by kernel_rfl
@[go_sem] theorem ty198_agg : tyAgg Tryz.prog 198 = some true:=by kernel_rfl
@[go_sem] theorem ty198_bytes : tyBytes Tryz.prog 198 = some 64:=by kernel_rfl
@[go_sem] theorem ty198_z : tyZ Tryz.prog 198 = some [.v (.int .i64 0),.v (.int .i64 0),.v (.string ByteArray.empty),.v (.int .i64 0),.v (.int .i64 0),.v (.string ByteArray.empty)]:=by kernel_rfl
@[go_sem] theorem ty198_fok : fieldsOk Tryz.prog 198 = true:=by kernel_rfl
@[go_sem] theorem ty198_f0 : tyField Tryz.prog 198 0 = some (0,72):=by kernel_rfl
@[go_sem] theorem ty198_f1 : tyField Tryz.prog 198 1 = some (3,72):=by kernel_rfl
attribute [go_sem] Tryz.underlying198
@[go_sem] theorem ty228_size : tySize Tryz.prog 228 = some 2:=by kernel_rfl
@[go_sem] theorem ty228_agg : tyAgg Tryz.prog 228 = some true:=by kernel_rfl
@[go_sem] theorem ty228_bytes : tyBytes Tryz.prog 228 = some 32:=by kernel_rfl
@[go_sem] theorem ty228_z : tyZ Tryz.prog 228 = some [.v (.int .i64 0),.v (.slice none 0 0)]:=by kernel_rfl
@[go_sem] theorem ty228_fok : fieldsOk Tryz.prog 228 = true:=by kernel_rfl
@[go_sem] theorem ty228_f0 : tyField Tryz.prog 228 0 = some (0,3):=by kernel_rfl
@[go_sem] theorem ty228_f1 : tyField Tryz.prog 228 1 = some (1,150):=by kernel_rfl
attribute [go_sem] Tryz.underlying228
@[go_sem] theorem ty243_size : tySize Tryz.prog 243 = some 2:=by kernel_rfl
@[go_sem] theorem ty243_agg : tyAgg Tryz.prog 243 = some true:=by kernel_rfl
@[go_sem] theorem ty243_bytes : tyBytes Tryz.prog 243 = some 32:=by kernel_rfl
@[go_sem] theorem ty243_z : tyZ Tryz.prog 243 = some [.v (.int .i64 0),.v (.slice none 0 0)]:=by kernel_rfl
@[go_sem] theorem ty243_fok : fieldsOk Tryz.prog 243 = true:=by kernel_rfl
@[go_sem] theorem ty243_f0 : tyField Tryz.prog 243 0 = some (0,3):=by kernel_rfl
@[go_sem] theorem ty243_f1 : tyField Tryz.prog 243 1 = some (1,150):=by kernel_rfl
attribute [go_sem] Tryz.underlying243
@[go_sem] theorem ty246_size : tySize Tryz.prog 246 = some 1:=by kernel_rfl
@[go_sem] theorem ty246_agg : tyAgg Tryz.prog 246 = some false:=by kernel_rfl
@[go_sem] theorem ty246_bytes : tyBytes Tryz.prog 246 = some 24:=by kernel_rfl
@[go_sem] theorem ty246_z : tyZ Tryz.prog 246 = some [.v (.slice none 0 0)]:=by kernel_rfl
@[go_sem] theorem ty246_elem : tyElem Tryz.prog 246 = some 248:=by kernel_rfl
attribute [go_sem] Tryz.underlying246
@[go_sem] theorem ty248_size : tySize Tryz.prog 248 = some 4:=by kernel_rfl
@[go_sem] theorem ty248_agg : tyAgg Tryz.prog 248 = some true:=by kernel_rfl
@[go_sem] theorem ty248_bytes : tyBytes Tryz.prog 248 = some 40:=by kernel_rfl
@[go_sem] theorem ty248_z : tyZ Tryz.prog 248 = some [.v (.int .i64 0),.v (.int .i64 0),.v (.string ByteArray.empty),.v (.int .i64 0)]:=by kernel_rfl
@[go_sem] theorem ty248_fok : fieldsOk Tryz.prog 248 = true:=by kernel_rfl
@[go_sem] theorem ty248_f0 : tyField Tryz.prog 248 0 = some (0,72):=by kernel_rfl
@[go_sem] theorem ty248_f1 : tyField Tryz.prog 248 1 = some (3,3):=by kernel_rfl
attribute [go_sem] Tryz.underlying248
@[go_sem] theorem ty270_size : tySize Tryz.prog 270 = some 1:=by kernel_rfl
@[go_sem] theorem ty270_agg : tyAgg Tryz.prog 270 = some false:=by kernel_rfl
@[go_sem] theorem ty270_bytes : tyBytes Tryz.prog 270 = some 8:=by kernel_rfl
@[go_sem] theorem ty270_z : tyZ Tryz.prog 270 = some [.v (.int .u64 0)]:=by kernel_rfl
attribute [go_sem] Tryz.underlying270
@[go_sem] theorem ty274_size : tySize Tryz.prog 274 = some 1:=by kernel_rfl
@[go_sem] theorem ty274_agg : tyAgg Tryz.prog 274 = some false:=by kernel_rfl
@[go_sem] theorem ty274_bytes : tyBytes Tryz.prog 274 = some 4:=by kernel_rfl
@[go_sem] theorem ty274_z : tyZ Tryz.prog 274 = some [.v (.int .u32 0)]:=by kernel_rfl
attribute [go_sem] Tryz.underlying274
@[go_sem] theorem ty276_size : tySize Tryz.prog 276 = some 1:=by kernel_rfl
@[go_sem] theorem ty276_agg : tyAgg Tryz.prog 276 = some false:=by kernel_rfl
@[go_sem] theorem ty276_bytes : tyBytes Tryz.prog 276 = some 8:=by kernel_rfl
@[go_sem] theorem ty276_z : tyZ Tryz.prog 276 = some [.v (.int .u64 0)]:=by kernel_rfl
attribute [go_sem] Tryz.underlying276
@[go_sem] theorem ty281_size : tySize Tryz.prog 281 = some 1:=by kernel_rfl
@[go_sem] theorem ty281_agg : tyAgg Tryz.prog 281 = some false:=by kernel_rfl
@[go_sem] theorem ty281_bytes : tyBytes Tryz.prog 281 = some 8:=by kernel_rfl
@[go_sem] theorem ty281_z : tyZ Tryz.prog 281 = some [.v (.int .i64 0)]:=by kernel_rfl
attribute [go_sem] Tryz.underlying281
@[go_sem] theorem ty288_size : tySize Tryz.prog 288 = some 1:=by kernel_rfl
@[go_sem] theorem ty288_agg : tyAgg Tryz.prog 288 = some false:=by kernel_rfl
@[go_sem] theorem ty288_bytes : tyBytes Tryz.prog 288 = some 8:=by kernel_rfl
@[go_sem] theorem ty288_z : tyZ Tryz.prog 288 = some [.v (.int .u64 0)]:=by kernel_rfl
attribute [go_sem] Tryz.underlying288
@[go_sem] theorem ty311_size : tySize Tryz.prog 311 = some 1:=by kernel_rfl
@[go_sem] theorem ty311_agg : tyAgg Tryz.prog 311 = some false:=by kernel_rfl
@[go_sem] theorem ty311_bytes : tyBytes Tryz.prog 311 = some 8:=by kernel_rfl
@[go_sem] theorem ty311_z : tyZ Tryz.prog 311 = some [.v (.pointer none)]:=by kernel_rfl
attribute [go_sem] Tryz.underlying311
end Go.Proofs.YthoeeoddgkjkkaaGreat
