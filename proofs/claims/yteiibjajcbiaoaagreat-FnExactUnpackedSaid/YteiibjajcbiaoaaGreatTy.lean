/- Facts on the types of this seat, by program (gen_ty.py). -/
import Derived.Test.YteiibjajcbiaoaaGreatVmU
import Derived.Test.YteiibjajcbiaoaaGreatRows
namespace Go.Proofs.YteiibjajcbiaoaaGreat
set_option linter.unusedSimpArgs false
set_option linter.unusedVariables false
open Go.Vm

theorem mixed : Tryz.prog.follows .mixedOrders = true := by kernel_rfl
@[go_sem] theorem ty2_size : tySize Tryz.prog 2 = some 1 := by kernel_rfl
@[go_sem] theorem ty2_agg : tyAgg Tryz.prog 2 = some false := by kernel_rfl
@[go_sem] theorem ty2_bytes : tyBytes Tryz.prog 2 = some 8 := by kernel_rfl
@[go_sem] theorem ty2_z : tyZ Tryz.prog 2 = some [.v (.int .i64 0)] := by kernel_rfl
attribute [go_sem] Tryz.underlying2
@[go_sem] theorem ty3_size : tySize Tryz.prog 3 = some 1 := by kernel_rfl
@[go_sem] theorem ty3_agg : tyAgg Tryz.prog 3 = some false := by kernel_rfl
@[go_sem] theorem ty3_bytes : tyBytes Tryz.prog 3 = some 8 := by kernel_rfl
@[go_sem] theorem ty3_z : tyZ Tryz.prog 3 = some [.v (.int .i64 0)] := by kernel_rfl
attribute [go_sem] Tryz.underlying3
@[go_sem] theorem ty4_size : tySize Tryz.prog 4 = some 1 := by kernel_rfl
@[go_sem] theorem ty4_agg : tyAgg Tryz.prog 4 = some false := by kernel_rfl
@[go_sem] theorem ty4_bytes : tyBytes Tryz.prog 4 = some 1 := by kernel_rfl
@[go_sem] theorem ty4_z : tyZ Tryz.prog 4 = some [.v (.bool false)] := by kernel_rfl
attribute [go_sem] Tryz.underlying4
@[go_sem] theorem ty5_size : tySize Tryz.prog 5 = some 1 := by kernel_rfl
@[go_sem] theorem ty5_agg : tyAgg Tryz.prog 5 = some false := by kernel_rfl
@[go_sem] theorem ty5_bytes : tyBytes Tryz.prog 5 = some 1 := by kernel_rfl
@[go_sem] theorem ty5_z : tyZ Tryz.prog 5 = some [.v (.int .u8 0)] := by kernel_rfl
attribute [go_sem] Tryz.underlying5
@[go_sem] theorem ty7_size : tySize Tryz.prog 7 = some 4 := by kernel_rfl
@[go_sem] theorem ty7_agg : tyAgg Tryz.prog 7 = some true := by kernel_rfl
@[go_sem] theorem ty7_bytes : tyBytes Tryz.prog 7 = some 24 := by kernel_rfl
@[go_sem] theorem ty7_z : tyZ Tryz.prog 7 = some [.v (.int .i64 0), .v (.int .i64 0), .v (.bool false), .v (.int .u8 0)] := by kernel_rfl
@[go_sem] theorem ty7_fok : fieldsOk Tryz.prog 7 = true := by kernel_rfl
@[go_sem] theorem ty7_f0 : tyField Tryz.prog 7 0 = some (0, 2) := by kernel_rfl
@[go_sem] theorem ty7_f1 : tyField Tryz.prog 7 1 = some (1, 3) := by kernel_rfl
@[go_sem] theorem ty7_f2 : tyField Tryz.prog 7 2 = some (2, 4) := by kernel_rfl
@[go_sem] theorem ty7_f3 : tyField Tryz.prog 7 3 = some (3, 6) := by kernel_rfl
attribute [go_sem] Tryz.underlying7
@[go_sem] theorem ty9_size : tySize Tryz.prog 9 = some 1 := by kernel_rfl
@[go_sem] theorem ty9_agg : tyAgg Tryz.prog 9 = some false := by kernel_rfl
@[go_sem] theorem ty9_bytes : tyBytes Tryz.prog 9 = some 16 := by kernel_rfl
@[go_sem] theorem ty9_z : tyZ Tryz.prog 9 = some [.v (.string ByteArray.empty)] := by kernel_rfl
attribute [go_sem] Tryz.underlying9
@[go_sem] theorem ty12_size : tySize Tryz.prog 12 = some 1 := by kernel_rfl
@[go_sem] theorem ty12_agg : tyAgg Tryz.prog 12 = some false := by kernel_rfl
@[go_sem] theorem ty12_bytes : tyBytes Tryz.prog 12 = some 8 := by kernel_rfl
@[go_sem] theorem ty12_z : tyZ Tryz.prog 12 = some [.v (.int .u64 0)] := by kernel_rfl
attribute [go_sem] Tryz.underlying12
@[go_sem] theorem ty13_size : tySize Tryz.prog 13 = some 2 := by kernel_rfl
@[go_sem] theorem ty13_agg : tyAgg Tryz.prog 13 = some true := by kernel_rfl
@[go_sem] theorem ty13_bytes : tyBytes Tryz.prog 13 = some 24 := by kernel_rfl
@[go_sem] theorem ty13_z : tyZ Tryz.prog 13 = some [.v (.string ByteArray.empty), .v (.int .u64 0)] := by kernel_rfl
@[go_sem] theorem ty13_fok : fieldsOk Tryz.prog 13 = true := by kernel_rfl
@[go_sem] theorem ty13_f0 : tyField Tryz.prog 13 0 = some (0, 9) := by kernel_rfl
@[go_sem] theorem ty13_f1 : tyField Tryz.prog 13 1 = some (1, 12) := by kernel_rfl
attribute [go_sem] Tryz.underlying13
@[go_sem] theorem ty18_size : tySize Tryz.prog 18 = some 1 := by kernel_rfl
@[go_sem] theorem ty18_agg : tyAgg Tryz.prog 18 = some true := by kernel_rfl
@[go_sem] theorem ty18_bytes : tyBytes Tryz.prog 18 = some 8 := by kernel_rfl
@[go_sem] theorem ty18_z : tyZ Tryz.prog 18 = some [.v (.pointer none)] := by kernel_rfl
@[go_sem] theorem ty18_fok : fieldsOk Tryz.prog 18 = true := by kernel_rfl
@[go_sem] theorem ty18_f0 : tyField Tryz.prog 18 0 = some (0, 17) := by kernel_rfl
attribute [go_sem] Tryz.underlying18
@[go_sem] theorem ty21_size : tySize Tryz.prog 21 = some 1 := by kernel_rfl
@[go_sem] theorem ty21_agg : tyAgg Tryz.prog 21 = some false := by kernel_rfl
@[go_sem] theorem ty21_bytes : tyBytes Tryz.prog 21 = some 4 := by kernel_rfl
@[go_sem] theorem ty21_z : tyZ Tryz.prog 21 = some [.v (.int .i32 0)] := by kernel_rfl
attribute [go_sem] Tryz.underlying21
@[go_sem] theorem ty22_size : tySize Tryz.prog 22 = some 1 := by kernel_rfl
@[go_sem] theorem ty22_agg : tyAgg Tryz.prog 22 = some false := by kernel_rfl
@[go_sem] theorem ty22_bytes : tyBytes Tryz.prog 22 = some 24 := by kernel_rfl
@[go_sem] theorem ty22_z : tyZ Tryz.prog 22 = some [.v (.slice none 0 0)] := by kernel_rfl
@[go_sem] theorem ty22_elem : tyElem Tryz.prog 22 = some 3 := by kernel_rfl
attribute [go_sem] Tryz.underlying22
@[go_sem] theorem ty23_size : tySize Tryz.prog 23 = some 1 := by kernel_rfl
@[go_sem] theorem ty23_agg : tyAgg Tryz.prog 23 = some false := by kernel_rfl
@[go_sem] theorem ty23_bytes : tyBytes Tryz.prog 23 = some 24 := by kernel_rfl
@[go_sem] theorem ty23_z : tyZ Tryz.prog 23 = some [.v (.slice none 0 0)] := by kernel_rfl
@[go_sem] theorem ty23_elem : tyElem Tryz.prog 23 = some 140 := by kernel_rfl
attribute [go_sem] Tryz.underlying23
@[go_sem] theorem ty24_size : tySize Tryz.prog 24 = some 2 := by kernel_rfl
@[go_sem] theorem ty24_agg : tyAgg Tryz.prog 24 = some true := by kernel_rfl
@[go_sem] theorem ty24_bytes : tyBytes Tryz.prog 24 = some 48 := by kernel_rfl
@[go_sem] theorem ty24_z : tyZ Tryz.prog 24 = some [.v (.slice none 0 0), .v (.slice none 0 0)] := by kernel_rfl
@[go_sem] theorem ty24_fok : fieldsOk Tryz.prog 24 = true := by kernel_rfl
@[go_sem] theorem ty24_f0 : tyField Tryz.prog 24 0 = some (0, 22) := by kernel_rfl
@[go_sem] theorem ty24_f1 : tyField Tryz.prog 24 1 = some (1, 23) := by kernel_rfl
attribute [go_sem] Tryz.underlying24
@[go_sem] theorem ty25_size : tySize Tryz.prog 25 = some 2 := by kernel_rfl
@[go_sem] theorem ty25_agg : tyAgg Tryz.prog 25 = some true := by kernel_rfl
@[go_sem] theorem ty25_bytes : tyBytes Tryz.prog 25 = some 48 := by kernel_rfl
@[go_sem] theorem ty25_z : tyZ Tryz.prog 25 = some [.v (.slice none 0 0), .v (.slice none 0 0)] := by kernel_rfl
@[go_sem] theorem ty25_fok : fieldsOk Tryz.prog 25 = true := by kernel_rfl
@[go_sem] theorem ty25_f0 : tyField Tryz.prog 25 0 = some (0, 22) := by kernel_rfl
@[go_sem] theorem ty25_f1 : tyField Tryz.prog 25 1 = some (1, 23) := by kernel_rfl
attribute [go_sem] Tryz.underlying25
@[go_sem] theorem ty26_size : tySize Tryz.prog 26 = some 1 := by kernel_rfl
@[go_sem] theorem ty26_agg : tyAgg Tryz.prog 26 = some false := by kernel_rfl
@[go_sem] theorem ty26_bytes : tyBytes Tryz.prog 26 = some 24 := by kernel_rfl
@[go_sem] theorem ty26_z : tyZ Tryz.prog 26 = some [.v (.slice none 0 0)] := by kernel_rfl
@[go_sem] theorem ty26_elem : tyElem Tryz.prog 26 = some 28 := by kernel_rfl
attribute [go_sem] Tryz.underlying26
@[go_sem] theorem ty27_size : tySize Tryz.prog 27 = some 3 := by kernel_rfl
@[go_sem] theorem ty27_agg : tyAgg Tryz.prog 27 = some true := by kernel_rfl
@[go_sem] theorem ty27_bytes : tyBytes Tryz.prog 27 = some 32 := by kernel_rfl
@[go_sem] theorem ty27_z : tyZ Tryz.prog 27 = some [.v (.int .i64 0), .v (.int .i64 0), .v (.string ByteArray.empty)] := by kernel_rfl
@[go_sem] theorem ty27_fok : fieldsOk Tryz.prog 27 = true := by kernel_rfl
@[go_sem] theorem ty27_f0 : tyField Tryz.prog 27 0 = some (0, 3) := by kernel_rfl
@[go_sem] theorem ty27_f1 : tyField Tryz.prog 27 1 = some (1, 3) := by kernel_rfl
@[go_sem] theorem ty27_f2 : tyField Tryz.prog 27 2 = some (2, 9) := by kernel_rfl
attribute [go_sem] Tryz.underlying27
@[go_sem] theorem ty28_size : tySize Tryz.prog 28 = some 3 := by kernel_rfl
@[go_sem] theorem ty28_agg : tyAgg Tryz.prog 28 = some true := by kernel_rfl
@[go_sem] theorem ty28_bytes : tyBytes Tryz.prog 28 = some 32 := by kernel_rfl
@[go_sem] theorem ty28_z : tyZ Tryz.prog 28 = some [.v (.int .i64 0), .v (.int .i64 0), .v (.string ByteArray.empty)] := by kernel_rfl
@[go_sem] theorem ty28_fok : fieldsOk Tryz.prog 28 = true := by kernel_rfl
@[go_sem] theorem ty28_f0 : tyField Tryz.prog 28 0 = some (0, 3) := by kernel_rfl
@[go_sem] theorem ty28_f1 : tyField Tryz.prog 28 1 = some (1, 3) := by kernel_rfl
@[go_sem] theorem ty28_f2 : tyField Tryz.prog 28 2 = some (2, 9) := by kernel_rfl
attribute [go_sem] Tryz.underlying28
@[go_sem] theorem ty29_size : tySize Tryz.prog 29 = some 1 := by kernel_rfl
@[go_sem] theorem ty29_agg : tyAgg Tryz.prog 29 = some false := by kernel_rfl
@[go_sem] theorem ty29_bytes : tyBytes Tryz.prog 29 = some 24 := by kernel_rfl
@[go_sem] theorem ty29_z : tyZ Tryz.prog 29 = some [.v (.slice none 0 0)] := by kernel_rfl
@[go_sem] theorem ty29_elem : tyElem Tryz.prog 29 = some 31 := by kernel_rfl
attribute [go_sem] Tryz.underlying29
@[go_sem] theorem ty30_size : tySize Tryz.prog 30 = some 7 := by kernel_rfl
@[go_sem] theorem ty30_agg : tyAgg Tryz.prog 30 = some true := by kernel_rfl
@[go_sem] theorem ty30_bytes : tyBytes Tryz.prog 30 = some 80 := by kernel_rfl
@[go_sem] theorem ty30_z : tyZ Tryz.prog 30 = some [.v (.int .i64 0), .v (.int .i64 0), .v (.int .i64 0), .v (.int .i64 0), .v (.int .i64 0), .v (.string ByteArray.empty), .v (.slice none 0 0)] := by kernel_rfl
@[go_sem] theorem ty30_fok : fieldsOk Tryz.prog 30 = true := by kernel_rfl
@[go_sem] theorem ty30_f0 : tyField Tryz.prog 30 0 = some (0, 3) := by kernel_rfl
@[go_sem] theorem ty30_f1 : tyField Tryz.prog 30 1 = some (1, 3) := by kernel_rfl
@[go_sem] theorem ty30_f2 : tyField Tryz.prog 30 2 = some (2, 3) := by kernel_rfl
@[go_sem] theorem ty30_f3 : tyField Tryz.prog 30 3 = some (3, 28) := by kernel_rfl
@[go_sem] theorem ty30_f4 : tyField Tryz.prog 30 4 = some (6, 29) := by kernel_rfl
attribute [go_sem] Tryz.underlying30
@[go_sem] theorem ty31_size : tySize Tryz.prog 31 = some 7 := by kernel_rfl
@[go_sem] theorem ty31_agg : tyAgg Tryz.prog 31 = some true := by kernel_rfl
@[go_sem] theorem ty31_bytes : tyBytes Tryz.prog 31 = some 80 := by kernel_rfl
@[go_sem] theorem ty31_z : tyZ Tryz.prog 31 = some [.v (.int .i64 0), .v (.int .i64 0), .v (.int .i64 0), .v (.int .i64 0), .v (.int .i64 0), .v (.string ByteArray.empty), .v (.slice none 0 0)] := by kernel_rfl
@[go_sem] theorem ty31_fok : fieldsOk Tryz.prog 31 = true := by kernel_rfl
@[go_sem] theorem ty31_f0 : tyField Tryz.prog 31 0 = some (0, 3) := by kernel_rfl
@[go_sem] theorem ty31_f1 : tyField Tryz.prog 31 1 = some (1, 3) := by kernel_rfl
@[go_sem] theorem ty31_f2 : tyField Tryz.prog 31 2 = some (2, 3) := by kernel_rfl
@[go_sem] theorem ty31_f3 : tyField Tryz.prog 31 3 = some (3, 28) := by kernel_rfl
@[go_sem] theorem ty31_f4 : tyField Tryz.prog 31 4 = some (6, 29) := by kernel_rfl
attribute [go_sem] Tryz.underlying31
@[go_sem] theorem ty32_size : tySize Tryz.prog 32 = some 10 := by kernel_rfl
@[go_sem] theorem ty32_agg : tyAgg Tryz.prog 32 = some true := by kernel_rfl
@[go_sem] theorem ty32_bytes : tyBytes Tryz.prog 32 = some 120 := by kernel_rfl
@[go_sem] theorem ty32_z : tyZ Tryz.prog 32 = some [.v (.int .i64 0), .v (.int .i64 0), .v (.int .i64 0), .v (.int .i64 0), .v (.int .i64 0), .v (.int .i64 0), .v (.string ByteArray.empty), .v (.slice none 0 0), .v (.int .i64 0), .v (.slice none 0 0)] := by kernel_rfl
@[go_sem] theorem ty32_fok : fieldsOk Tryz.prog 32 = true := by kernel_rfl
@[go_sem] theorem ty32_f0 : tyField Tryz.prog 32 0 = some (0, 3) := by kernel_rfl
@[go_sem] theorem ty32_f1 : tyField Tryz.prog 32 1 = some (1, 31) := by kernel_rfl
@[go_sem] theorem ty32_f2 : tyField Tryz.prog 32 2 = some (8, 3) := by kernel_rfl
@[go_sem] theorem ty32_f3 : tyField Tryz.prog 32 3 = some (9, 22) := by kernel_rfl
attribute [go_sem] Tryz.underlying32
@[go_sem] theorem ty33_size : tySize Tryz.prog 33 = some 10 := by kernel_rfl
@[go_sem] theorem ty33_agg : tyAgg Tryz.prog 33 = some true := by kernel_rfl
@[go_sem] theorem ty33_bytes : tyBytes Tryz.prog 33 = some 120 := by kernel_rfl
@[go_sem] theorem ty33_z : tyZ Tryz.prog 33 = some [.v (.int .i64 0), .v (.int .i64 0), .v (.int .i64 0), .v (.int .i64 0), .v (.int .i64 0), .v (.int .i64 0), .v (.string ByteArray.empty), .v (.slice none 0 0), .v (.int .i64 0), .v (.slice none 0 0)] := by kernel_rfl
@[go_sem] theorem ty33_fok : fieldsOk Tryz.prog 33 = true := by kernel_rfl
@[go_sem] theorem ty33_f0 : tyField Tryz.prog 33 0 = some (0, 3) := by kernel_rfl
@[go_sem] theorem ty33_f1 : tyField Tryz.prog 33 1 = some (1, 31) := by kernel_rfl
@[go_sem] theorem ty33_f2 : tyField Tryz.prog 33 2 = some (8, 3) := by kernel_rfl
@[go_sem] theorem ty33_f3 : tyField Tryz.prog 33 3 = some (9, 22) := by kernel_rfl
attribute [go_sem] Tryz.underlying33
@[go_sem] theorem ty34_size : tySize Tryz.prog 34 = some 6 := by kernel_rfl
@[go_sem] theorem ty34_agg : tyAgg Tryz.prog 34 = some true := by kernel_rfl
@[go_sem] theorem ty34_bytes : tyBytes Tryz.prog 34 = some 72 := by kernel_rfl
@[go_sem] theorem ty34_z : tyZ Tryz.prog 34 = some [.v (.slice none 0 0), .v (.int .i64 0), .v (.bool false), .v (.int .i64 0), .v (.int .i64 0), .v (.string ByteArray.empty)] := by kernel_rfl
@[go_sem] theorem ty34_fok : fieldsOk Tryz.prog 34 = true := by kernel_rfl
@[go_sem] theorem ty34_f0 : tyField Tryz.prog 34 0 = some (0, 23) := by kernel_rfl
@[go_sem] theorem ty34_f1 : tyField Tryz.prog 34 1 = some (1, 3) := by kernel_rfl
@[go_sem] theorem ty34_f2 : tyField Tryz.prog 34 2 = some (2, 4) := by kernel_rfl
@[go_sem] theorem ty34_f3 : tyField Tryz.prog 34 3 = some (3, 28) := by kernel_rfl
attribute [go_sem] Tryz.underlying34
@[go_sem] theorem ty35_size : tySize Tryz.prog 35 = some 6 := by kernel_rfl
@[go_sem] theorem ty35_agg : tyAgg Tryz.prog 35 = some true := by kernel_rfl
@[go_sem] theorem ty35_bytes : tyBytes Tryz.prog 35 = some 72 := by kernel_rfl
@[go_sem] theorem ty35_z : tyZ Tryz.prog 35 = some [.v (.slice none 0 0), .v (.int .i64 0), .v (.bool false), .v (.int .i64 0), .v (.int .i64 0), .v (.string ByteArray.empty)] := by kernel_rfl
@[go_sem] theorem ty35_fok : fieldsOk Tryz.prog 35 = true := by kernel_rfl
@[go_sem] theorem ty35_f0 : tyField Tryz.prog 35 0 = some (0, 23) := by kernel_rfl
@[go_sem] theorem ty35_f1 : tyField Tryz.prog 35 1 = some (1, 3) := by kernel_rfl
@[go_sem] theorem ty35_f2 : tyField Tryz.prog 35 2 = some (2, 4) := by kernel_rfl
@[go_sem] theorem ty35_f3 : tyField Tryz.prog 35 3 = some (3, 28) := by kernel_rfl
attribute [go_sem] Tryz.underlying35
@[go_sem] theorem ty36_size : tySize Tryz.prog 36 = some 25 := by kernel_rfl
@[go_sem] theorem ty36_agg : tyAgg Tryz.prog 36 = some true := by kernel_rfl
@[go_sem] theorem ty36_bytes : tyBytes Tryz.prog 36 = some 280 := by kernel_rfl
@[go_sem] theorem ty36_z : tyZ Tryz.prog 36 = some [.v (.int .i64 0), .v (.int .i64 0), .v (.slice none 0 0), .v (.int .i64 0), .v (.int .i64 0), .v (.int .i64 0), .v (.int .i64 0), .v (.int .i64 0), .v (.int .i64 0), .v (.int .i64 0), .v (.string ByteArray.empty), .v (.slice none 0 0), .v (.int .i64 0), .v (.slice none 0 0), .v (.slice none 0 0), .v (.int .i64 0), .v (.bool false), .v (.int .i64 0), .v (.int .i64 0), .v (.string ByteArray.empty), .v (.int .i64 0), .v (.int .i64 0), .v (.int .i64 0), .v (.int .i64 0), .v (.int .i64 0)] := by kernel_rfl
@[go_sem] theorem ty36_fok : fieldsOk Tryz.prog 36 = true := by kernel_rfl
@[go_sem] theorem ty36_f0 : tyField Tryz.prog 36 0 = some (0, 3) := by kernel_rfl
@[go_sem] theorem ty36_f1 : tyField Tryz.prog 36 1 = some (1, 3) := by kernel_rfl
@[go_sem] theorem ty36_f2 : tyField Tryz.prog 36 2 = some (2, 26) := by kernel_rfl
@[go_sem] theorem ty36_f3 : tyField Tryz.prog 36 3 = some (3, 3) := by kernel_rfl
@[go_sem] theorem ty36_f4 : tyField Tryz.prog 36 4 = some (4, 33) := by kernel_rfl
@[go_sem] theorem ty36_f5 : tyField Tryz.prog 36 5 = some (14, 35) := by kernel_rfl
@[go_sem] theorem ty36_f6 : tyField Tryz.prog 36 6 = some (20, 3) := by kernel_rfl
@[go_sem] theorem ty36_f7 : tyField Tryz.prog 36 7 = some (21, 3) := by kernel_rfl
@[go_sem] theorem ty36_f8 : tyField Tryz.prog 36 8 = some (22, 3) := by kernel_rfl
@[go_sem] theorem ty36_f9 : tyField Tryz.prog 36 9 = some (23, 3) := by kernel_rfl
@[go_sem] theorem ty36_f10 : tyField Tryz.prog 36 10 = some (24, 3) := by kernel_rfl
attribute [go_sem] Tryz.underlying36
@[go_sem] theorem ty37_size : tySize Tryz.prog 37 = some 25 := by kernel_rfl
@[go_sem] theorem ty37_agg : tyAgg Tryz.prog 37 = some true := by kernel_rfl
@[go_sem] theorem ty37_bytes : tyBytes Tryz.prog 37 = some 280 := by kernel_rfl
@[go_sem] theorem ty37_z : tyZ Tryz.prog 37 = some [.v (.int .i64 0), .v (.int .i64 0), .v (.slice none 0 0), .v (.int .i64 0), .v (.int .i64 0), .v (.int .i64 0), .v (.int .i64 0), .v (.int .i64 0), .v (.int .i64 0), .v (.int .i64 0), .v (.string ByteArray.empty), .v (.slice none 0 0), .v (.int .i64 0), .v (.slice none 0 0), .v (.slice none 0 0), .v (.int .i64 0), .v (.bool false), .v (.int .i64 0), .v (.int .i64 0), .v (.string ByteArray.empty), .v (.int .i64 0), .v (.int .i64 0), .v (.int .i64 0), .v (.int .i64 0), .v (.int .i64 0)] := by kernel_rfl
@[go_sem] theorem ty37_fok : fieldsOk Tryz.prog 37 = true := by kernel_rfl
@[go_sem] theorem ty37_f0 : tyField Tryz.prog 37 0 = some (0, 3) := by kernel_rfl
@[go_sem] theorem ty37_f1 : tyField Tryz.prog 37 1 = some (1, 3) := by kernel_rfl
@[go_sem] theorem ty37_f2 : tyField Tryz.prog 37 2 = some (2, 26) := by kernel_rfl
@[go_sem] theorem ty37_f3 : tyField Tryz.prog 37 3 = some (3, 3) := by kernel_rfl
@[go_sem] theorem ty37_f4 : tyField Tryz.prog 37 4 = some (4, 33) := by kernel_rfl
@[go_sem] theorem ty37_f5 : tyField Tryz.prog 37 5 = some (14, 35) := by kernel_rfl
@[go_sem] theorem ty37_f6 : tyField Tryz.prog 37 6 = some (20, 3) := by kernel_rfl
@[go_sem] theorem ty37_f7 : tyField Tryz.prog 37 7 = some (21, 3) := by kernel_rfl
@[go_sem] theorem ty37_f8 : tyField Tryz.prog 37 8 = some (22, 3) := by kernel_rfl
@[go_sem] theorem ty37_f9 : tyField Tryz.prog 37 9 = some (23, 3) := by kernel_rfl
@[go_sem] theorem ty37_f10 : tyField Tryz.prog 37 10 = some (24, 3) := by kernel_rfl
attribute [go_sem] Tryz.underlying37
@[go_sem] theorem ty40_size : tySize Tryz.prog 40 = some 1 := by kernel_rfl
@[go_sem] theorem ty40_agg : tyAgg Tryz.prog 40 = some false := by kernel_rfl
@[go_sem] theorem ty40_bytes : tyBytes Tryz.prog 40 = some 24 := by kernel_rfl
@[go_sem] theorem ty40_z : tyZ Tryz.prog 40 = some [.v (.slice none 0 0)] := by kernel_rfl
@[go_sem] theorem ty40_elem : tyElem Tryz.prog 40 = some 118 := by kernel_rfl
attribute [go_sem] Tryz.underlying40
@[go_sem] theorem ty41_size : tySize Tryz.prog 41 = some 2 := by kernel_rfl
@[go_sem] theorem ty41_agg : tyAgg Tryz.prog 41 = some true := by kernel_rfl
@[go_sem] theorem ty41_bytes : tyBytes Tryz.prog 41 = some 48 := by kernel_rfl
@[go_sem] theorem ty41_z : tyZ Tryz.prog 41 = some [.v (.slice none 0 0), .v (.slice none 0 0)] := by kernel_rfl
@[go_sem] theorem ty41_fok : fieldsOk Tryz.prog 41 = true := by kernel_rfl
@[go_sem] theorem ty41_f0 : tyField Tryz.prog 41 0 = some (0, 22) := by kernel_rfl
@[go_sem] theorem ty41_f1 : tyField Tryz.prog 41 1 = some (1, 40) := by kernel_rfl
attribute [go_sem] Tryz.underlying41
@[go_sem] theorem ty42_size : tySize Tryz.prog 42 = some 2 := by kernel_rfl
@[go_sem] theorem ty42_agg : tyAgg Tryz.prog 42 = some true := by kernel_rfl
@[go_sem] theorem ty42_bytes : tyBytes Tryz.prog 42 = some 48 := by kernel_rfl
@[go_sem] theorem ty42_z : tyZ Tryz.prog 42 = some [.v (.slice none 0 0), .v (.slice none 0 0)] := by kernel_rfl
@[go_sem] theorem ty42_fok : fieldsOk Tryz.prog 42 = true := by kernel_rfl
@[go_sem] theorem ty42_f0 : tyField Tryz.prog 42 0 = some (0, 22) := by kernel_rfl
@[go_sem] theorem ty42_f1 : tyField Tryz.prog 42 1 = some (1, 40) := by kernel_rfl
attribute [go_sem] Tryz.underlying42
@[go_sem] theorem ty46_size : tySize Tryz.prog 46 = some 1 := by kernel_rfl
@[go_sem] theorem ty46_agg : tyAgg Tryz.prog 46 = some false := by kernel_rfl
@[go_sem] theorem ty46_bytes : tyBytes Tryz.prog 46 = some 24 := by kernel_rfl
@[go_sem] theorem ty46_z : tyZ Tryz.prog 46 = some [.v (.slice none 0 0)] := by kernel_rfl
@[go_sem] theorem ty46_elem : tyElem Tryz.prog 46 = some 47 := by kernel_rfl
attribute [go_sem] Tryz.underlying46
@[go_sem] theorem ty47_size : tySize Tryz.prog 47 = some 3 := by kernel_rfl
@[go_sem] theorem ty47_agg : tyAgg Tryz.prog 47 = some true := by kernel_rfl
@[go_sem] theorem ty47_bytes : tyBytes Tryz.prog 47 = some 32 := by kernel_rfl
@[go_sem] theorem ty47_z : tyZ Tryz.prog 47 = some [.v (.int .i64 0), .v (.int .i64 0), .v (.string ByteArray.empty)] := by kernel_rfl
@[go_sem] theorem ty47_fok : fieldsOk Tryz.prog 47 = true := by kernel_rfl
@[go_sem] theorem ty47_f0 : tyField Tryz.prog 47 0 = some (0, 3) := by kernel_rfl
@[go_sem] theorem ty47_f1 : tyField Tryz.prog 47 1 = some (1, 3) := by kernel_rfl
@[go_sem] theorem ty47_f2 : tyField Tryz.prog 47 2 = some (2, 9) := by kernel_rfl
attribute [go_sem] Tryz.underlying47
@[go_sem] theorem ty48_size : tySize Tryz.prog 48 = some 1 := by kernel_rfl
@[go_sem] theorem ty48_agg : tyAgg Tryz.prog 48 = some false := by kernel_rfl
@[go_sem] theorem ty48_bytes : tyBytes Tryz.prog 48 = some 24 := by kernel_rfl
@[go_sem] theorem ty48_z : tyZ Tryz.prog 48 = some [.v (.slice none 0 0)] := by kernel_rfl
@[go_sem] theorem ty48_elem : tyElem Tryz.prog 48 = some 50 := by kernel_rfl
attribute [go_sem] Tryz.underlying48
@[go_sem] theorem ty49_size : tySize Tryz.prog 49 = some 7 := by kernel_rfl
@[go_sem] theorem ty49_agg : tyAgg Tryz.prog 49 = some true := by kernel_rfl
@[go_sem] theorem ty49_bytes : tyBytes Tryz.prog 49 = some 80 := by kernel_rfl
@[go_sem] theorem ty49_z : tyZ Tryz.prog 49 = some [.v (.int .i64 0), .v (.int .i64 0), .v (.int .i64 0), .v (.int .i64 0), .v (.int .i64 0), .v (.string ByteArray.empty), .v (.slice none 0 0)] := by kernel_rfl
@[go_sem] theorem ty49_fok : fieldsOk Tryz.prog 49 = true := by kernel_rfl
@[go_sem] theorem ty49_f0 : tyField Tryz.prog 49 0 = some (0, 3) := by kernel_rfl
@[go_sem] theorem ty49_f1 : tyField Tryz.prog 49 1 = some (1, 3) := by kernel_rfl
@[go_sem] theorem ty49_f2 : tyField Tryz.prog 49 2 = some (2, 3) := by kernel_rfl
@[go_sem] theorem ty49_f3 : tyField Tryz.prog 49 3 = some (3, 47) := by kernel_rfl
@[go_sem] theorem ty49_f4 : tyField Tryz.prog 49 4 = some (6, 48) := by kernel_rfl
attribute [go_sem] Tryz.underlying49
@[go_sem] theorem ty50_size : tySize Tryz.prog 50 = some 7 := by kernel_rfl
@[go_sem] theorem ty50_agg : tyAgg Tryz.prog 50 = some true := by kernel_rfl
@[go_sem] theorem ty50_bytes : tyBytes Tryz.prog 50 = some 80 := by kernel_rfl
@[go_sem] theorem ty50_z : tyZ Tryz.prog 50 = some [.v (.int .i64 0), .v (.int .i64 0), .v (.int .i64 0), .v (.int .i64 0), .v (.int .i64 0), .v (.string ByteArray.empty), .v (.slice none 0 0)] := by kernel_rfl
@[go_sem] theorem ty50_fok : fieldsOk Tryz.prog 50 = true := by kernel_rfl
@[go_sem] theorem ty50_f0 : tyField Tryz.prog 50 0 = some (0, 3) := by kernel_rfl
@[go_sem] theorem ty50_f1 : tyField Tryz.prog 50 1 = some (1, 3) := by kernel_rfl
@[go_sem] theorem ty50_f2 : tyField Tryz.prog 50 2 = some (2, 3) := by kernel_rfl
@[go_sem] theorem ty50_f3 : tyField Tryz.prog 50 3 = some (3, 47) := by kernel_rfl
@[go_sem] theorem ty50_f4 : tyField Tryz.prog 50 4 = some (6, 48) := by kernel_rfl
attribute [go_sem] Tryz.underlying50
@[go_sem] theorem ty51_size : tySize Tryz.prog 51 = some 10 := by kernel_rfl
@[go_sem] theorem ty51_agg : tyAgg Tryz.prog 51 = some true := by kernel_rfl
@[go_sem] theorem ty51_bytes : tyBytes Tryz.prog 51 = some 120 := by kernel_rfl
@[go_sem] theorem ty51_z : tyZ Tryz.prog 51 = some [.v (.int .i64 0), .v (.int .i64 0), .v (.int .i64 0), .v (.int .i64 0), .v (.int .i64 0), .v (.int .i64 0), .v (.string ByteArray.empty), .v (.slice none 0 0), .v (.int .i64 0), .v (.slice none 0 0)] := by kernel_rfl
@[go_sem] theorem ty51_fok : fieldsOk Tryz.prog 51 = true := by kernel_rfl
@[go_sem] theorem ty51_f0 : tyField Tryz.prog 51 0 = some (0, 3) := by kernel_rfl
@[go_sem] theorem ty51_f1 : tyField Tryz.prog 51 1 = some (1, 50) := by kernel_rfl
@[go_sem] theorem ty51_f2 : tyField Tryz.prog 51 2 = some (8, 3) := by kernel_rfl
@[go_sem] theorem ty51_f3 : tyField Tryz.prog 51 3 = some (9, 22) := by kernel_rfl
attribute [go_sem] Tryz.underlying51
@[go_sem] theorem ty52_size : tySize Tryz.prog 52 = some 10 := by kernel_rfl
@[go_sem] theorem ty52_agg : tyAgg Tryz.prog 52 = some true := by kernel_rfl
@[go_sem] theorem ty52_bytes : tyBytes Tryz.prog 52 = some 120 := by kernel_rfl
@[go_sem] theorem ty52_z : tyZ Tryz.prog 52 = some [.v (.int .i64 0), .v (.int .i64 0), .v (.int .i64 0), .v (.int .i64 0), .v (.int .i64 0), .v (.int .i64 0), .v (.string ByteArray.empty), .v (.slice none 0 0), .v (.int .i64 0), .v (.slice none 0 0)] := by kernel_rfl
@[go_sem] theorem ty52_fok : fieldsOk Tryz.prog 52 = true := by kernel_rfl
@[go_sem] theorem ty52_f0 : tyField Tryz.prog 52 0 = some (0, 3) := by kernel_rfl
@[go_sem] theorem ty52_f1 : tyField Tryz.prog 52 1 = some (1, 50) := by kernel_rfl
@[go_sem] theorem ty52_f2 : tyField Tryz.prog 52 2 = some (8, 3) := by kernel_rfl
@[go_sem] theorem ty52_f3 : tyField Tryz.prog 52 3 = some (9, 22) := by kernel_rfl
attribute [go_sem] Tryz.underlying52
@[go_sem] theorem ty53_size : tySize Tryz.prog 53 = some 6 := by kernel_rfl
@[go_sem] theorem ty53_agg : tyAgg Tryz.prog 53 = some true := by kernel_rfl
@[go_sem] theorem ty53_bytes : tyBytes Tryz.prog 53 = some 72 := by kernel_rfl
@[go_sem] theorem ty53_z : tyZ Tryz.prog 53 = some [.v (.slice none 0 0), .v (.int .i64 0), .v (.bool false), .v (.int .i64 0), .v (.int .i64 0), .v (.string ByteArray.empty)] := by kernel_rfl
@[go_sem] theorem ty53_fok : fieldsOk Tryz.prog 53 = true := by kernel_rfl
@[go_sem] theorem ty53_f0 : tyField Tryz.prog 53 0 = some (0, 40) := by kernel_rfl
@[go_sem] theorem ty53_f1 : tyField Tryz.prog 53 1 = some (1, 3) := by kernel_rfl
@[go_sem] theorem ty53_f2 : tyField Tryz.prog 53 2 = some (2, 4) := by kernel_rfl
@[go_sem] theorem ty53_f3 : tyField Tryz.prog 53 3 = some (3, 47) := by kernel_rfl
attribute [go_sem] Tryz.underlying53
@[go_sem] theorem ty54_size : tySize Tryz.prog 54 = some 6 := by kernel_rfl
@[go_sem] theorem ty54_agg : tyAgg Tryz.prog 54 = some true := by kernel_rfl
@[go_sem] theorem ty54_bytes : tyBytes Tryz.prog 54 = some 72 := by kernel_rfl
@[go_sem] theorem ty54_z : tyZ Tryz.prog 54 = some [.v (.slice none 0 0), .v (.int .i64 0), .v (.bool false), .v (.int .i64 0), .v (.int .i64 0), .v (.string ByteArray.empty)] := by kernel_rfl
@[go_sem] theorem ty54_fok : fieldsOk Tryz.prog 54 = true := by kernel_rfl
@[go_sem] theorem ty54_f0 : tyField Tryz.prog 54 0 = some (0, 40) := by kernel_rfl
@[go_sem] theorem ty54_f1 : tyField Tryz.prog 54 1 = some (1, 3) := by kernel_rfl
@[go_sem] theorem ty54_f2 : tyField Tryz.prog 54 2 = some (2, 4) := by kernel_rfl
@[go_sem] theorem ty54_f3 : tyField Tryz.prog 54 3 = some (3, 47) := by kernel_rfl
attribute [go_sem] Tryz.underlying54
@[go_sem] theorem ty55_size : tySize Tryz.prog 55 = some 25 := by kernel_rfl
@[go_sem] theorem ty55_agg : tyAgg Tryz.prog 55 = some true := by kernel_rfl
@[go_sem] theorem ty55_bytes : tyBytes Tryz.prog 55 = some 280 := by kernel_rfl
@[go_sem] theorem ty55_z : tyZ Tryz.prog 55 = some [.v (.int .i64 0), .v (.int .i64 0), .v (.slice none 0 0), .v (.int .i64 0), .v (.int .i64 0), .v (.int .i64 0), .v (.int .i64 0), .v (.int .i64 0), .v (.int .i64 0), .v (.int .i64 0), .v (.string ByteArray.empty), .v (.slice none 0 0), .v (.int .i64 0), .v (.slice none 0 0), .v (.slice none 0 0), .v (.int .i64 0), .v (.bool false), .v (.int .i64 0), .v (.int .i64 0), .v (.string ByteArray.empty), .v (.int .i64 0), .v (.int .i64 0), .v (.int .i64 0), .v (.int .i64 0), .v (.int .i64 0)] := by kernel_rfl
@[go_sem] theorem ty55_fok : fieldsOk Tryz.prog 55 = true := by kernel_rfl
@[go_sem] theorem ty55_f0 : tyField Tryz.prog 55 0 = some (0, 3) := by kernel_rfl
@[go_sem] theorem ty55_f1 : tyField Tryz.prog 55 1 = some (1, 3) := by kernel_rfl
@[go_sem] theorem ty55_f2 : tyField Tryz.prog 55 2 = some (2, 46) := by kernel_rfl
@[go_sem] theorem ty55_f3 : tyField Tryz.prog 55 3 = some (3, 3) := by kernel_rfl
@[go_sem] theorem ty55_f4 : tyField Tryz.prog 55 4 = some (4, 52) := by kernel_rfl
@[go_sem] theorem ty55_f5 : tyField Tryz.prog 55 5 = some (14, 54) := by kernel_rfl
@[go_sem] theorem ty55_f6 : tyField Tryz.prog 55 6 = some (20, 3) := by kernel_rfl
@[go_sem] theorem ty55_f7 : tyField Tryz.prog 55 7 = some (21, 3) := by kernel_rfl
@[go_sem] theorem ty55_f8 : tyField Tryz.prog 55 8 = some (22, 3) := by kernel_rfl
@[go_sem] theorem ty55_f9 : tyField Tryz.prog 55 9 = some (23, 3) := by kernel_rfl
@[go_sem] theorem ty55_f10 : tyField Tryz.prog 55 10 = some (24, 3) := by kernel_rfl
attribute [go_sem] Tryz.underlying55
@[go_sem] theorem ty56_size : tySize Tryz.prog 56 = some 25 := by kernel_rfl
@[go_sem] theorem ty56_agg : tyAgg Tryz.prog 56 = some true := by kernel_rfl
@[go_sem] theorem ty56_bytes : tyBytes Tryz.prog 56 = some 280 := by kernel_rfl
@[go_sem] theorem ty56_z : tyZ Tryz.prog 56 = some [.v (.int .i64 0), .v (.int .i64 0), .v (.slice none 0 0), .v (.int .i64 0), .v (.int .i64 0), .v (.int .i64 0), .v (.int .i64 0), .v (.int .i64 0), .v (.int .i64 0), .v (.int .i64 0), .v (.string ByteArray.empty), .v (.slice none 0 0), .v (.int .i64 0), .v (.slice none 0 0), .v (.slice none 0 0), .v (.int .i64 0), .v (.bool false), .v (.int .i64 0), .v (.int .i64 0), .v (.string ByteArray.empty), .v (.int .i64 0), .v (.int .i64 0), .v (.int .i64 0), .v (.int .i64 0), .v (.int .i64 0)] := by kernel_rfl
@[go_sem] theorem ty56_fok : fieldsOk Tryz.prog 56 = true := by kernel_rfl
@[go_sem] theorem ty56_f0 : tyField Tryz.prog 56 0 = some (0, 3) := by kernel_rfl
@[go_sem] theorem ty56_f1 : tyField Tryz.prog 56 1 = some (1, 3) := by kernel_rfl
@[go_sem] theorem ty56_f2 : tyField Tryz.prog 56 2 = some (2, 46) := by kernel_rfl
@[go_sem] theorem ty56_f3 : tyField Tryz.prog 56 3 = some (3, 3) := by kernel_rfl
@[go_sem] theorem ty56_f4 : tyField Tryz.prog 56 4 = some (4, 52) := by kernel_rfl
@[go_sem] theorem ty56_f5 : tyField Tryz.prog 56 5 = some (14, 54) := by kernel_rfl
@[go_sem] theorem ty56_f6 : tyField Tryz.prog 56 6 = some (20, 3) := by kernel_rfl
@[go_sem] theorem ty56_f7 : tyField Tryz.prog 56 7 = some (21, 3) := by kernel_rfl
@[go_sem] theorem ty56_f8 : tyField Tryz.prog 56 8 = some (22, 3) := by kernel_rfl
@[go_sem] theorem ty56_f9 : tyField Tryz.prog 56 9 = some (23, 3) := by kernel_rfl
@[go_sem] theorem ty56_f10 : tyField Tryz.prog 56 10 = some (24, 3) := by kernel_rfl
attribute [go_sem] Tryz.underlying56
@[go_sem] theorem ty63_size : tySize Tryz.prog 63 = some 3 := by kernel_rfl
@[go_sem] theorem ty63_agg : tyAgg Tryz.prog 63 = some true := by kernel_rfl
@[go_sem] theorem ty63_bytes : tyBytes Tryz.prog 63 = some 40 := by kernel_rfl
@[go_sem] theorem ty63_z : tyZ Tryz.prog 63 = some [.v (.slice none 0 0), .v (.int .i64 0), .v (.int .i64 0)] := by kernel_rfl
@[go_sem] theorem ty63_fok : fieldsOk Tryz.prog 63 = true := by kernel_rfl
@[go_sem] theorem ty63_f0 : tyField Tryz.prog 63 0 = some (0, 22) := by kernel_rfl
@[go_sem] theorem ty63_f1 : tyField Tryz.prog 63 1 = some (1, 3) := by kernel_rfl
@[go_sem] theorem ty63_f2 : tyField Tryz.prog 63 2 = some (2, 3) := by kernel_rfl
attribute [go_sem] Tryz.underlying63
@[go_sem] theorem ty64_size : tySize Tryz.prog 64 = some 3 := by kernel_rfl
@[go_sem] theorem ty64_agg : tyAgg Tryz.prog 64 = some true := by kernel_rfl
@[go_sem] theorem ty64_bytes : tyBytes Tryz.prog 64 = some 40 := by kernel_rfl
@[go_sem] theorem ty64_z : tyZ Tryz.prog 64 = some [.v (.slice none 0 0), .v (.int .i64 0), .v (.int .i64 0)] := by kernel_rfl
@[go_sem] theorem ty64_fok : fieldsOk Tryz.prog 64 = true := by kernel_rfl
@[go_sem] theorem ty64_f0 : tyField Tryz.prog 64 0 = some (0, 22) := by kernel_rfl
@[go_sem] theorem ty64_f1 : tyField Tryz.prog 64 1 = some (1, 3) := by kernel_rfl
@[go_sem] theorem ty64_f2 : tyField Tryz.prog 64 2 = some (2, 3) := by kernel_rfl
attribute [go_sem] Tryz.underlying64
@[go_sem] theorem ty65_size : tySize Tryz.prog 65 = some 1 := by kernel_rfl
@[go_sem] theorem ty65_agg : tyAgg Tryz.prog 65 = some false := by kernel_rfl
@[go_sem] theorem ty65_bytes : tyBytes Tryz.prog 65 = some 24 := by kernel_rfl
@[go_sem] theorem ty65_z : tyZ Tryz.prog 65 = some [.v (.slice none 0 0)] := by kernel_rfl
@[go_sem] theorem ty65_elem : tyElem Tryz.prog 65 = some 238 := by kernel_rfl
attribute [go_sem] Tryz.underlying65
@[go_sem] theorem ty66_size : tySize Tryz.prog 66 = some 2 := by kernel_rfl
@[go_sem] theorem ty66_agg : tyAgg Tryz.prog 66 = some true := by kernel_rfl
@[go_sem] theorem ty66_bytes : tyBytes Tryz.prog 66 = some 32 := by kernel_rfl
@[go_sem] theorem ty66_z : tyZ Tryz.prog 66 = some [.v (.int .i64 0), .v (.slice none 0 0)] := by kernel_rfl
@[go_sem] theorem ty66_fok : fieldsOk Tryz.prog 66 = true := by kernel_rfl
@[go_sem] theorem ty66_f0 : tyField Tryz.prog 66 0 = some (0, 3) := by kernel_rfl
@[go_sem] theorem ty66_f1 : tyField Tryz.prog 66 1 = some (1, 65) := by kernel_rfl
attribute [go_sem] Tryz.underlying66
@[go_sem] theorem ty67_size : tySize Tryz.prog 67 = some 2 := by kernel_rfl
@[go_sem] theorem ty67_agg : tyAgg Tryz.prog 67 = some true := by kernel_rfl
@[go_sem] theorem ty67_bytes : tyBytes Tryz.prog 67 = some 32 := by kernel_rfl
@[go_sem] theorem ty67_z : tyZ Tryz.prog 67 = some [.v (.int .i64 0), .v (.slice none 0 0)] := by kernel_rfl
@[go_sem] theorem ty67_fok : fieldsOk Tryz.prog 67 = true := by kernel_rfl
@[go_sem] theorem ty67_f0 : tyField Tryz.prog 67 0 = some (0, 3) := by kernel_rfl
@[go_sem] theorem ty67_f1 : tyField Tryz.prog 67 1 = some (1, 65) := by kernel_rfl
attribute [go_sem] Tryz.underlying67
@[go_sem] theorem ty68_size : tySize Tryz.prog 68 = some 1 := by kernel_rfl
@[go_sem] theorem ty68_agg : tyAgg Tryz.prog 68 = some false := by kernel_rfl
@[go_sem] theorem ty68_bytes : tyBytes Tryz.prog 68 = some 24 := by kernel_rfl
@[go_sem] theorem ty68_z : tyZ Tryz.prog 68 = some [.v (.slice none 0 0)] := by kernel_rfl
@[go_sem] theorem ty68_elem : tyElem Tryz.prog 68 = some 200 := by kernel_rfl
attribute [go_sem] Tryz.underlying68
@[go_sem] theorem ty69_size : tySize Tryz.prog 69 = some 1 := by kernel_rfl
@[go_sem] theorem ty69_agg : tyAgg Tryz.prog 69 = some false := by kernel_rfl
@[go_sem] theorem ty69_bytes : tyBytes Tryz.prog 69 = some 24 := by kernel_rfl
@[go_sem] theorem ty69_z : tyZ Tryz.prog 69 = some [.v (.slice none 0 0)] := by kernel_rfl
@[go_sem] theorem ty69_elem : tyElem Tryz.prog 69 = some 211 := by kernel_rfl
attribute [go_sem] Tryz.underlying69
@[go_sem] theorem ty70_size : tySize Tryz.prog 70 = some 1 := by kernel_rfl
@[go_sem] theorem ty70_agg : tyAgg Tryz.prog 70 = some false := by kernel_rfl
@[go_sem] theorem ty70_bytes : tyBytes Tryz.prog 70 = some 24 := by kernel_rfl
@[go_sem] theorem ty70_z : tyZ Tryz.prog 70 = some [.v (.slice none 0 0)] := by kernel_rfl
@[go_sem] theorem ty70_elem : tyElem Tryz.prog 70 = some 203 := by kernel_rfl
attribute [go_sem] Tryz.underlying70
@[go_sem] theorem ty71_size : tySize Tryz.prog 71 = some 1 := by kernel_rfl
@[go_sem] theorem ty71_agg : tyAgg Tryz.prog 71 = some false := by kernel_rfl
@[go_sem] theorem ty71_bytes : tyBytes Tryz.prog 71 = some 24 := by kernel_rfl
@[go_sem] theorem ty71_z : tyZ Tryz.prog 71 = some [.v (.slice none 0 0)] := by kernel_rfl
@[go_sem] theorem ty71_elem : tyElem Tryz.prog 71 = some 37 := by kernel_rfl
attribute [go_sem] Tryz.underlying71
@[go_sem] theorem ty72_size : tySize Tryz.prog 72 = some 14 := by kernel_rfl
@[go_sem] theorem ty72_agg : tyAgg Tryz.prog 72 = some true := by kernel_rfl
@[go_sem] theorem ty72_bytes : tyBytes Tryz.prog 72 = some 240 := by kernel_rfl
@[go_sem] theorem ty72_z : tyZ Tryz.prog 72 = some [.v (.slice none 0 0), .v (.int .i64 0), .v (.int .i64 0), .v (.int .i64 0), .v (.int .i64 0), .v (.int .i64 0), .v (.int .i64 0), .v (.slice none 0 0), .v (.slice none 0 0), .v (.slice none 0 0), .v (.slice none 0 0), .v (.slice none 0 0), .v (.slice none 0 0), .v (.slice none 0 0)] := by kernel_rfl
@[go_sem] theorem ty72_fok : fieldsOk Tryz.prog 72 = true := by kernel_rfl
@[go_sem] theorem ty72_f0 : tyField Tryz.prog 72 0 = some (0, 64) := by kernel_rfl
@[go_sem] theorem ty72_f1 : tyField Tryz.prog 72 1 = some (3, 3) := by kernel_rfl
@[go_sem] theorem ty72_f2 : tyField Tryz.prog 72 2 = some (4, 3) := by kernel_rfl
@[go_sem] theorem ty72_f3 : tyField Tryz.prog 72 3 = some (5, 3) := by kernel_rfl
@[go_sem] theorem ty72_f4 : tyField Tryz.prog 72 4 = some (6, 67) := by kernel_rfl
@[go_sem] theorem ty72_f5 : tyField Tryz.prog 72 5 = some (8, 68) := by kernel_rfl
@[go_sem] theorem ty72_f6 : tyField Tryz.prog 72 6 = some (9, 22) := by kernel_rfl
@[go_sem] theorem ty72_f7 : tyField Tryz.prog 72 7 = some (10, 69) := by kernel_rfl
@[go_sem] theorem ty72_f8 : tyField Tryz.prog 72 8 = some (11, 22) := by kernel_rfl
@[go_sem] theorem ty72_f9 : tyField Tryz.prog 72 9 = some (12, 70) := by kernel_rfl
@[go_sem] theorem ty72_f10 : tyField Tryz.prog 72 10 = some (13, 71) := by kernel_rfl
attribute [go_sem] Tryz.underlying72
@[go_sem] theorem ty73_size : tySize Tryz.prog 73 = some 14 := by kernel_rfl
@[go_sem] theorem ty73_agg : tyAgg Tryz.prog 73 = some true := by kernel_rfl
@[go_sem] theorem ty73_bytes : tyBytes Tryz.prog 73 = some 240 := by kernel_rfl
@[go_sem] theorem ty73_z : tyZ Tryz.prog 73 = some [.v (.slice none 0 0), .v (.int .i64 0), .v (.int .i64 0), .v (.int .i64 0), .v (.int .i64 0), .v (.int .i64 0), .v (.int .i64 0), .v (.slice none 0 0), .v (.slice none 0 0), .v (.slice none 0 0), .v (.slice none 0 0), .v (.slice none 0 0), .v (.slice none 0 0), .v (.slice none 0 0)] := by kernel_rfl
@[go_sem] theorem ty73_fok : fieldsOk Tryz.prog 73 = true := by kernel_rfl
@[go_sem] theorem ty73_f0 : tyField Tryz.prog 73 0 = some (0, 64) := by kernel_rfl
@[go_sem] theorem ty73_f1 : tyField Tryz.prog 73 1 = some (3, 3) := by kernel_rfl
@[go_sem] theorem ty73_f2 : tyField Tryz.prog 73 2 = some (4, 3) := by kernel_rfl
@[go_sem] theorem ty73_f3 : tyField Tryz.prog 73 3 = some (5, 3) := by kernel_rfl
@[go_sem] theorem ty73_f4 : tyField Tryz.prog 73 4 = some (6, 67) := by kernel_rfl
@[go_sem] theorem ty73_f5 : tyField Tryz.prog 73 5 = some (8, 68) := by kernel_rfl
@[go_sem] theorem ty73_f6 : tyField Tryz.prog 73 6 = some (9, 22) := by kernel_rfl
@[go_sem] theorem ty73_f7 : tyField Tryz.prog 73 7 = some (10, 69) := by kernel_rfl
@[go_sem] theorem ty73_f8 : tyField Tryz.prog 73 8 = some (11, 22) := by kernel_rfl
@[go_sem] theorem ty73_f9 : tyField Tryz.prog 73 9 = some (12, 70) := by kernel_rfl
@[go_sem] theorem ty73_f10 : tyField Tryz.prog 73 10 = some (13, 71) := by kernel_rfl
attribute [go_sem] Tryz.underlying73
@[go_sem] theorem ty77_size : tySize Tryz.prog 77 = some 3 := by kernel_rfl
@[go_sem] theorem ty77_agg : tyAgg Tryz.prog 77 = some true := by kernel_rfl
@[go_sem] theorem ty77_bytes : tyBytes Tryz.prog 77 = some 40 := by kernel_rfl
@[go_sem] theorem ty77_z : tyZ Tryz.prog 77 = some [.v (.slice none 0 0), .v (.int .i64 0), .v (.int .i64 0)] := by kernel_rfl
@[go_sem] theorem ty77_fok : fieldsOk Tryz.prog 77 = true := by kernel_rfl
@[go_sem] theorem ty77_f0 : tyField Tryz.prog 77 0 = some (0, 22) := by kernel_rfl
@[go_sem] theorem ty77_f1 : tyField Tryz.prog 77 1 = some (1, 3) := by kernel_rfl
@[go_sem] theorem ty77_f2 : tyField Tryz.prog 77 2 = some (2, 3) := by kernel_rfl
attribute [go_sem] Tryz.underlying77
@[go_sem] theorem ty78_size : tySize Tryz.prog 78 = some 1 := by kernel_rfl
@[go_sem] theorem ty78_agg : tyAgg Tryz.prog 78 = some false := by kernel_rfl
@[go_sem] theorem ty78_bytes : tyBytes Tryz.prog 78 = some 24 := by kernel_rfl
@[go_sem] theorem ty78_z : tyZ Tryz.prog 78 = some [.v (.slice none 0 0)] := by kernel_rfl
@[go_sem] theorem ty78_elem : tyElem Tryz.prog 78 = some 163 := by kernel_rfl
attribute [go_sem] Tryz.underlying78
@[go_sem] theorem ty79_size : tySize Tryz.prog 79 = some 2 := by kernel_rfl
@[go_sem] theorem ty79_agg : tyAgg Tryz.prog 79 = some true := by kernel_rfl
@[go_sem] theorem ty79_bytes : tyBytes Tryz.prog 79 = some 32 := by kernel_rfl
@[go_sem] theorem ty79_z : tyZ Tryz.prog 79 = some [.v (.int .i64 0), .v (.slice none 0 0)] := by kernel_rfl
@[go_sem] theorem ty79_fok : fieldsOk Tryz.prog 79 = true := by kernel_rfl
@[go_sem] theorem ty79_f0 : tyField Tryz.prog 79 0 = some (0, 3) := by kernel_rfl
@[go_sem] theorem ty79_f1 : tyField Tryz.prog 79 1 = some (1, 78) := by kernel_rfl
attribute [go_sem] Tryz.underlying79
@[go_sem] theorem ty80_size : tySize Tryz.prog 80 = some 2 := by kernel_rfl
@[go_sem] theorem ty80_agg : tyAgg Tryz.prog 80 = some true := by kernel_rfl
@[go_sem] theorem ty80_bytes : tyBytes Tryz.prog 80 = some 32 := by kernel_rfl
@[go_sem] theorem ty80_z : tyZ Tryz.prog 80 = some [.v (.int .i64 0), .v (.slice none 0 0)] := by kernel_rfl
@[go_sem] theorem ty80_fok : fieldsOk Tryz.prog 80 = true := by kernel_rfl
@[go_sem] theorem ty80_f0 : tyField Tryz.prog 80 0 = some (0, 3) := by kernel_rfl
@[go_sem] theorem ty80_f1 : tyField Tryz.prog 80 1 = some (1, 78) := by kernel_rfl
attribute [go_sem] Tryz.underlying80
@[go_sem] theorem ty81_size : tySize Tryz.prog 81 = some 1 := by kernel_rfl
@[go_sem] theorem ty81_agg : tyAgg Tryz.prog 81 = some false := by kernel_rfl
@[go_sem] theorem ty81_bytes : tyBytes Tryz.prog 81 = some 24 := by kernel_rfl
@[go_sem] theorem ty81_z : tyZ Tryz.prog 81 = some [.v (.slice none 0 0)] := by kernel_rfl
@[go_sem] theorem ty81_elem : tyElem Tryz.prog 81 = some 206 := by kernel_rfl
attribute [go_sem] Tryz.underlying81
@[go_sem] theorem ty82_size : tySize Tryz.prog 82 = some 1 := by kernel_rfl
@[go_sem] theorem ty82_agg : tyAgg Tryz.prog 82 = some false := by kernel_rfl
@[go_sem] theorem ty82_bytes : tyBytes Tryz.prog 82 = some 24 := by kernel_rfl
@[go_sem] theorem ty82_z : tyZ Tryz.prog 82 = some [.v (.slice none 0 0)] := by kernel_rfl
@[go_sem] theorem ty82_elem : tyElem Tryz.prog 82 = some 209 := by kernel_rfl
attribute [go_sem] Tryz.underlying82
@[go_sem] theorem ty83_size : tySize Tryz.prog 83 = some 1 := by kernel_rfl
@[go_sem] theorem ty83_agg : tyAgg Tryz.prog 83 = some false := by kernel_rfl
@[go_sem] theorem ty83_bytes : tyBytes Tryz.prog 83 = some 24 := by kernel_rfl
@[go_sem] theorem ty83_z : tyZ Tryz.prog 83 = some [.v (.slice none 0 0)] := by kernel_rfl
@[go_sem] theorem ty83_elem : tyElem Tryz.prog 83 = some 213 := by kernel_rfl
attribute [go_sem] Tryz.underlying83
@[go_sem] theorem ty84_size : tySize Tryz.prog 84 = some 1 := by kernel_rfl
@[go_sem] theorem ty84_agg : tyAgg Tryz.prog 84 = some false := by kernel_rfl
@[go_sem] theorem ty84_bytes : tyBytes Tryz.prog 84 = some 24 := by kernel_rfl
@[go_sem] theorem ty84_z : tyZ Tryz.prog 84 = some [.v (.slice none 0 0)] := by kernel_rfl
@[go_sem] theorem ty84_elem : tyElem Tryz.prog 84 = some 56 := by kernel_rfl
attribute [go_sem] Tryz.underlying84
@[go_sem] theorem ty85_size : tySize Tryz.prog 85 = some 14 := by kernel_rfl
@[go_sem] theorem ty85_agg : tyAgg Tryz.prog 85 = some true := by kernel_rfl
@[go_sem] theorem ty85_bytes : tyBytes Tryz.prog 85 = some 240 := by kernel_rfl
@[go_sem] theorem ty85_z : tyZ Tryz.prog 85 = some [.v (.slice none 0 0), .v (.int .i64 0), .v (.int .i64 0), .v (.int .i64 0), .v (.int .i64 0), .v (.int .i64 0), .v (.int .i64 0), .v (.slice none 0 0), .v (.slice none 0 0), .v (.slice none 0 0), .v (.slice none 0 0), .v (.slice none 0 0), .v (.slice none 0 0), .v (.slice none 0 0)] := by kernel_rfl
@[go_sem] theorem ty85_fok : fieldsOk Tryz.prog 85 = true := by kernel_rfl
@[go_sem] theorem ty85_f0 : tyField Tryz.prog 85 0 = some (0, 77) := by kernel_rfl
@[go_sem] theorem ty85_f1 : tyField Tryz.prog 85 1 = some (3, 3) := by kernel_rfl
@[go_sem] theorem ty85_f2 : tyField Tryz.prog 85 2 = some (4, 3) := by kernel_rfl
@[go_sem] theorem ty85_f3 : tyField Tryz.prog 85 3 = some (5, 3) := by kernel_rfl
@[go_sem] theorem ty85_f4 : tyField Tryz.prog 85 4 = some (6, 80) := by kernel_rfl
@[go_sem] theorem ty85_f5 : tyField Tryz.prog 85 5 = some (8, 81) := by kernel_rfl
@[go_sem] theorem ty85_f6 : tyField Tryz.prog 85 6 = some (9, 22) := by kernel_rfl
@[go_sem] theorem ty85_f7 : tyField Tryz.prog 85 7 = some (10, 82) := by kernel_rfl
@[go_sem] theorem ty85_f8 : tyField Tryz.prog 85 8 = some (11, 22) := by kernel_rfl
@[go_sem] theorem ty85_f9 : tyField Tryz.prog 85 9 = some (12, 83) := by kernel_rfl
@[go_sem] theorem ty85_f10 : tyField Tryz.prog 85 10 = some (13, 84) := by kernel_rfl
attribute [go_sem] Tryz.underlying85
@[go_sem] theorem ty86_size : tySize Tryz.prog 86 = some 14 := by kernel_rfl
@[go_sem] theorem ty86_agg : tyAgg Tryz.prog 86 = some true := by kernel_rfl
@[go_sem] theorem ty86_bytes : tyBytes Tryz.prog 86 = some 240 := by kernel_rfl
@[go_sem] theorem ty86_z : tyZ Tryz.prog 86 = some [.v (.slice none 0 0), .v (.int .i64 0), .v (.int .i64 0), .v (.int .i64 0), .v (.int .i64 0), .v (.int .i64 0), .v (.int .i64 0), .v (.slice none 0 0), .v (.slice none 0 0), .v (.slice none 0 0), .v (.slice none 0 0), .v (.slice none 0 0), .v (.slice none 0 0), .v (.slice none 0 0)] := by kernel_rfl
@[go_sem] theorem ty86_fok : fieldsOk Tryz.prog 86 = true := by kernel_rfl
@[go_sem] theorem ty86_f0 : tyField Tryz.prog 86 0 = some (0, 77) := by kernel_rfl
@[go_sem] theorem ty86_f1 : tyField Tryz.prog 86 1 = some (3, 3) := by kernel_rfl
@[go_sem] theorem ty86_f2 : tyField Tryz.prog 86 2 = some (4, 3) := by kernel_rfl
@[go_sem] theorem ty86_f3 : tyField Tryz.prog 86 3 = some (5, 3) := by kernel_rfl
@[go_sem] theorem ty86_f4 : tyField Tryz.prog 86 4 = some (6, 80) := by kernel_rfl
@[go_sem] theorem ty86_f5 : tyField Tryz.prog 86 5 = some (8, 81) := by kernel_rfl
@[go_sem] theorem ty86_f6 : tyField Tryz.prog 86 6 = some (9, 22) := by kernel_rfl
@[go_sem] theorem ty86_f7 : tyField Tryz.prog 86 7 = some (10, 82) := by kernel_rfl
@[go_sem] theorem ty86_f8 : tyField Tryz.prog 86 8 = some (11, 22) := by kernel_rfl
@[go_sem] theorem ty86_f9 : tyField Tryz.prog 86 9 = some (12, 83) := by kernel_rfl
@[go_sem] theorem ty86_f10 : tyField Tryz.prog 86 10 = some (13, 84) := by kernel_rfl
attribute [go_sem] Tryz.underlying86
@[go_sem] theorem ty117_size : tySize Tryz.prog 117 = some 2 := by kernel_rfl
@[go_sem] theorem ty117_agg : tyAgg Tryz.prog 117 = some true := by kernel_rfl
@[go_sem] theorem ty117_bytes : tyBytes Tryz.prog 117 = some 32 := by kernel_rfl
@[go_sem] theorem ty117_z : tyZ Tryz.prog 117 = some [.v (.int .i64 0), .v (.slice none 0 0)] := by kernel_rfl
@[go_sem] theorem ty117_fok : fieldsOk Tryz.prog 117 = true := by kernel_rfl
@[go_sem] theorem ty117_f0 : tyField Tryz.prog 117 0 = some (0, 3) := by kernel_rfl
@[go_sem] theorem ty117_f1 : tyField Tryz.prog 117 1 = some (1, 46) := by kernel_rfl
attribute [go_sem] Tryz.underlying117
@[go_sem] theorem ty118_size : tySize Tryz.prog 118 = some 2 := by kernel_rfl
@[go_sem] theorem ty118_agg : tyAgg Tryz.prog 118 = some true := by kernel_rfl
@[go_sem] theorem ty118_bytes : tyBytes Tryz.prog 118 = some 32 := by kernel_rfl
@[go_sem] theorem ty118_z : tyZ Tryz.prog 118 = some [.v (.int .i64 0), .v (.slice none 0 0)] := by kernel_rfl
@[go_sem] theorem ty118_fok : fieldsOk Tryz.prog 118 = true := by kernel_rfl
@[go_sem] theorem ty118_f0 : tyField Tryz.prog 118 0 = some (0, 3) := by kernel_rfl
@[go_sem] theorem ty118_f1 : tyField Tryz.prog 118 1 = some (1, 46) := by kernel_rfl
attribute [go_sem] Tryz.underlying118
@[go_sem] theorem ty139_size : tySize Tryz.prog 139 = some 2 := by kernel_rfl
@[go_sem] theorem ty139_agg : tyAgg Tryz.prog 139 = some true := by kernel_rfl
@[go_sem] theorem ty139_bytes : tyBytes Tryz.prog 139 = some 32 := by kernel_rfl
@[go_sem] theorem ty139_z : tyZ Tryz.prog 139 = some [.v (.int .i64 0), .v (.slice none 0 0)] := by kernel_rfl
@[go_sem] theorem ty139_fok : fieldsOk Tryz.prog 139 = true := by kernel_rfl
@[go_sem] theorem ty139_f0 : tyField Tryz.prog 139 0 = some (0, 3) := by kernel_rfl
@[go_sem] theorem ty139_f1 : tyField Tryz.prog 139 1 = some (1, 26) := by kernel_rfl
attribute [go_sem] Tryz.underlying139
@[go_sem] theorem ty140_size : tySize Tryz.prog 140 = some 2 := by kernel_rfl
@[go_sem] theorem ty140_agg : tyAgg Tryz.prog 140 = some true := by kernel_rfl
@[go_sem] theorem ty140_bytes : tyBytes Tryz.prog 140 = some 32 := by kernel_rfl
@[go_sem] theorem ty140_z : tyZ Tryz.prog 140 = some [.v (.int .i64 0), .v (.slice none 0 0)] := by kernel_rfl
@[go_sem] theorem ty140_fok : fieldsOk Tryz.prog 140 = true := by kernel_rfl
@[go_sem] theorem ty140_f0 : tyField Tryz.prog 140 0 = some (0, 3) := by kernel_rfl
@[go_sem] theorem ty140_f1 : tyField Tryz.prog 140 1 = some (1, 26) := by kernel_rfl
attribute [go_sem] Tryz.underlying140
@[go_sem] theorem ty162_size : tySize Tryz.prog 162 = some 5 := by kernel_rfl
@[go_sem] theorem ty162_agg : tyAgg Tryz.prog 162 = some true := by kernel_rfl
@[go_sem] theorem ty162_bytes : tyBytes Tryz.prog 162 = some 40 := by kernel_rfl
@[go_sem] theorem ty162_z : tyZ Tryz.prog 162 = some [.v (.int .i64 0), .v (.int .i64 0), .v (.int .i64 0), .v (.int .i64 0), .v (.int .i64 0)] := by kernel_rfl
@[go_sem] theorem ty162_fok : fieldsOk Tryz.prog 162 = true := by kernel_rfl
@[go_sem] theorem ty162_f0 : tyField Tryz.prog 162 0 = some (0, 3) := by kernel_rfl
@[go_sem] theorem ty162_f1 : tyField Tryz.prog 162 1 = some (1, 3) := by kernel_rfl
@[go_sem] theorem ty162_f2 : tyField Tryz.prog 162 2 = some (2, 3) := by kernel_rfl
@[go_sem] theorem ty162_f3 : tyField Tryz.prog 162 3 = some (3, 3) := by kernel_rfl
@[go_sem] theorem ty162_f4 : tyField Tryz.prog 162 4 = some (4, 3) := by kernel_rfl
attribute [go_sem] Tryz.underlying162
@[go_sem] theorem ty163_size : tySize Tryz.prog 163 = some 5 := by kernel_rfl
@[go_sem] theorem ty163_agg : tyAgg Tryz.prog 163 = some true := by kernel_rfl
@[go_sem] theorem ty163_bytes : tyBytes Tryz.prog 163 = some 40 := by kernel_rfl
@[go_sem] theorem ty163_z : tyZ Tryz.prog 163 = some [.v (.int .i64 0), .v (.int .i64 0), .v (.int .i64 0), .v (.int .i64 0), .v (.int .i64 0)] := by kernel_rfl
@[go_sem] theorem ty163_fok : fieldsOk Tryz.prog 163 = true := by kernel_rfl
@[go_sem] theorem ty163_f0 : tyField Tryz.prog 163 0 = some (0, 3) := by kernel_rfl
@[go_sem] theorem ty163_f1 : tyField Tryz.prog 163 1 = some (1, 3) := by kernel_rfl
@[go_sem] theorem ty163_f2 : tyField Tryz.prog 163 2 = some (2, 3) := by kernel_rfl
@[go_sem] theorem ty163_f3 : tyField Tryz.prog 163 3 = some (3, 3) := by kernel_rfl
@[go_sem] theorem ty163_f4 : tyField Tryz.prog 163 4 = some (4, 3) := by kernel_rfl
attribute [go_sem] Tryz.underlying163
@[go_sem] theorem ty165_size : tySize Tryz.prog 165 = some 1 := by kernel_rfl
@[go_sem] theorem ty165_agg : tyAgg Tryz.prog 165 = some false := by kernel_rfl
@[go_sem] theorem ty165_bytes : tyBytes Tryz.prog 165 = some 24 := by kernel_rfl
@[go_sem] theorem ty165_z : tyZ Tryz.prog 165 = some [.v (.slice none 0 0)] := by kernel_rfl
@[go_sem] theorem ty165_elem : tyElem Tryz.prog 165 = some 171 := by kernel_rfl
attribute [go_sem] Tryz.underlying165
@[go_sem] theorem ty166_size : tySize Tryz.prog 166 = some 2 := by kernel_rfl
@[go_sem] theorem ty166_agg : tyAgg Tryz.prog 166 = some true := by kernel_rfl
@[go_sem] theorem ty166_bytes : tyBytes Tryz.prog 166 = some 32 := by kernel_rfl
@[go_sem] theorem ty166_z : tyZ Tryz.prog 166 = some [.v (.int .i64 0), .v (.slice none 0 0)] := by kernel_rfl
@[go_sem] theorem ty166_fok : fieldsOk Tryz.prog 166 = true := by kernel_rfl
@[go_sem] theorem ty166_f0 : tyField Tryz.prog 166 0 = some (0, 3) := by kernel_rfl
@[go_sem] theorem ty166_f1 : tyField Tryz.prog 166 1 = some (1, 165) := by kernel_rfl
attribute [go_sem] Tryz.underlying166
@[go_sem] theorem ty167_size : tySize Tryz.prog 167 = some 2 := by kernel_rfl
@[go_sem] theorem ty167_agg : tyAgg Tryz.prog 167 = some true := by kernel_rfl
@[go_sem] theorem ty167_bytes : tyBytes Tryz.prog 167 = some 32 := by kernel_rfl
@[go_sem] theorem ty167_z : tyZ Tryz.prog 167 = some [.v (.int .i64 0), .v (.slice none 0 0)] := by kernel_rfl
@[go_sem] theorem ty167_fok : fieldsOk Tryz.prog 167 = true := by kernel_rfl
@[go_sem] theorem ty167_f0 : tyField Tryz.prog 167 0 = some (0, 3) := by kernel_rfl
@[go_sem] theorem ty167_f1 : tyField Tryz.prog 167 1 = some (1, 165) := by kernel_rfl
attribute [go_sem] Tryz.underlying167
@[go_sem] theorem ty170_size : tySize Tryz.prog 170 = some 2 := by kernel_rfl
@[go_sem] theorem ty170_agg : tyAgg Tryz.prog 170 = some true := by kernel_rfl
@[go_sem] theorem ty170_bytes : tyBytes Tryz.prog 170 = some 32 := by kernel_rfl
@[go_sem] theorem ty170_z : tyZ Tryz.prog 170 = some [.v (.int .i64 0), .v (.slice none 0 0)] := by kernel_rfl
@[go_sem] theorem ty170_fok : fieldsOk Tryz.prog 170 = true := by kernel_rfl
@[go_sem] theorem ty170_f0 : tyField Tryz.prog 170 0 = some (0, 3) := by kernel_rfl
@[go_sem] theorem ty170_f1 : tyField Tryz.prog 170 1 = some (1, 46) := by kernel_rfl
attribute [go_sem] Tryz.underlying170
@[go_sem] theorem ty171_size : tySize Tryz.prog 171 = some 2 := by kernel_rfl
@[go_sem] theorem ty171_agg : tyAgg Tryz.prog 171 = some true := by kernel_rfl
@[go_sem] theorem ty171_bytes : tyBytes Tryz.prog 171 = some 32 := by kernel_rfl
@[go_sem] theorem ty171_z : tyZ Tryz.prog 171 = some [.v (.int .i64 0), .v (.slice none 0 0)] := by kernel_rfl
@[go_sem] theorem ty171_fok : fieldsOk Tryz.prog 171 = true := by kernel_rfl
@[go_sem] theorem ty171_f0 : tyField Tryz.prog 171 0 = some (0, 3) := by kernel_rfl
@[go_sem] theorem ty171_f1 : tyField Tryz.prog 171 1 = some (1, 46) := by kernel_rfl
attribute [go_sem] Tryz.underlying171
@[go_sem] theorem ty187_size : tySize Tryz.prog 187 = some 6 := by kernel_rfl
@[go_sem] theorem ty187_agg : tyAgg Tryz.prog 187 = some true := by kernel_rfl
@[go_sem] theorem ty187_bytes : tyBytes Tryz.prog 187 = some 64 := by kernel_rfl
@[go_sem] theorem ty187_z : tyZ Tryz.prog 187 = some [.v (.int .i64 0), .v (.int .i64 0), .v (.string ByteArray.empty), .v (.int .i64 0), .v (.int .i64 0), .v (.string ByteArray.empty)] := by kernel_rfl
@[go_sem] theorem ty187_fok : fieldsOk Tryz.prog 187 = true := by kernel_rfl
@[go_sem] theorem ty187_f0 : tyField Tryz.prog 187 0 = some (0, 47) := by kernel_rfl
@[go_sem] theorem ty187_f1 : tyField Tryz.prog 187 1 = some (3, 47) := by kernel_rfl
attribute [go_sem] Tryz.underlying187
@[go_sem] theorem ty188_size : tySize Tryz.prog 188 = some 6 := by kernel_rfl
@[go_sem] theorem ty188_agg : tyAgg Tryz.prog 188 = some true := by kernel_rfl
@[go_sem] theorem ty188_bytes : tyBytes Tryz.prog 188 = some 64 := by kernel_rfl
@[go_sem] theorem ty188_z : tyZ Tryz.prog 188 = some [.v (.int .i64 0), .v (.int .i64 0), .v (.string ByteArray.empty), .v (.int .i64 0), .v (.int .i64 0), .v (.string ByteArray.empty)] := by kernel_rfl
@[go_sem] theorem ty188_fok : fieldsOk Tryz.prog 188 = true := by kernel_rfl
@[go_sem] theorem ty188_f0 : tyField Tryz.prog 188 0 = some (0, 47) := by kernel_rfl
@[go_sem] theorem ty188_f1 : tyField Tryz.prog 188 1 = some (3, 47) := by kernel_rfl
attribute [go_sem] Tryz.underlying188
@[go_sem] theorem ty195_size : tySize Tryz.prog 195 = some 1 := by kernel_rfl
@[go_sem] theorem ty195_agg : tyAgg Tryz.prog 195 = some false := by kernel_rfl
@[go_sem] theorem ty195_bytes : tyBytes Tryz.prog 195 = some 24 := by kernel_rfl
@[go_sem] theorem ty195_z : tyZ Tryz.prog 195 = some [.v (.slice none 0 0)] := by kernel_rfl
@[go_sem] theorem ty195_elem : tyElem Tryz.prog 195 = some 267 := by kernel_rfl
attribute [go_sem] Tryz.underlying195
@[go_sem] theorem ty196_size : tySize Tryz.prog 196 = some 2 := by kernel_rfl
@[go_sem] theorem ty196_agg : tyAgg Tryz.prog 196 = some true := by kernel_rfl
@[go_sem] theorem ty196_bytes : tyBytes Tryz.prog 196 = some 32 := by kernel_rfl
@[go_sem] theorem ty196_z : tyZ Tryz.prog 196 = some [.v (.int .i64 0), .v (.slice none 0 0)] := by kernel_rfl
@[go_sem] theorem ty196_fok : fieldsOk Tryz.prog 196 = true := by kernel_rfl
@[go_sem] theorem ty196_f0 : tyField Tryz.prog 196 0 = some (0, 3) := by kernel_rfl
@[go_sem] theorem ty196_f1 : tyField Tryz.prog 196 1 = some (1, 195) := by kernel_rfl
attribute [go_sem] Tryz.underlying196
@[go_sem] theorem ty197_size : tySize Tryz.prog 197 = some 2 := by kernel_rfl
@[go_sem] theorem ty197_agg : tyAgg Tryz.prog 197 = some true := by kernel_rfl
@[go_sem] theorem ty197_bytes : tyBytes Tryz.prog 197 = some 32 := by kernel_rfl
@[go_sem] theorem ty197_z : tyZ Tryz.prog 197 = some [.v (.int .i64 0), .v (.slice none 0 0)] := by kernel_rfl
@[go_sem] theorem ty197_fok : fieldsOk Tryz.prog 197 = true := by kernel_rfl
@[go_sem] theorem ty197_f0 : tyField Tryz.prog 197 0 = some (0, 3) := by kernel_rfl
@[go_sem] theorem ty197_f1 : tyField Tryz.prog 197 1 = some (1, 195) := by kernel_rfl
attribute [go_sem] Tryz.underlying197
@[go_sem] theorem ty198_size : tySize Tryz.prog 198 = some 1 := by kernel_rfl
@[go_sem] theorem ty198_agg : tyAgg Tryz.prog 198 = some false := by kernel_rfl
@[go_sem] theorem ty198_bytes : tyBytes Tryz.prog 198 = some 24 := by kernel_rfl
@[go_sem] theorem ty198_z : tyZ Tryz.prog 198 = some [.v (.slice none 0 0)] := by kernel_rfl
@[go_sem] theorem ty198_elem : tyElem Tryz.prog 198 = some 5 := by kernel_rfl
attribute [go_sem] Tryz.underlying198
@[go_sem] theorem ty199_size : tySize Tryz.prog 199 = some 5 := by kernel_rfl
@[go_sem] theorem ty199_agg : tyAgg Tryz.prog 199 = some true := by kernel_rfl
@[go_sem] theorem ty199_bytes : tyBytes Tryz.prog 199 = some 72 := by kernel_rfl
@[go_sem] theorem ty199_z : tyZ Tryz.prog 199 = some [.v (.int .i64 0), .v (.int .i64 0), .v (.int .i64 0), .v (.slice none 0 0), .v (.slice none 0 0)] := by kernel_rfl
@[go_sem] theorem ty199_fok : fieldsOk Tryz.prog 199 = true := by kernel_rfl
@[go_sem] theorem ty199_f0 : tyField Tryz.prog 199 0 = some (0, 3) := by kernel_rfl
@[go_sem] theorem ty199_f1 : tyField Tryz.prog 199 1 = some (1, 3) := by kernel_rfl
@[go_sem] theorem ty199_f2 : tyField Tryz.prog 199 2 = some (2, 197) := by kernel_rfl
@[go_sem] theorem ty199_f3 : tyField Tryz.prog 199 3 = some (4, 198) := by kernel_rfl
attribute [go_sem] Tryz.underlying199
@[go_sem] theorem ty200_size : tySize Tryz.prog 200 = some 5 := by kernel_rfl
@[go_sem] theorem ty200_agg : tyAgg Tryz.prog 200 = some true := by kernel_rfl
@[go_sem] theorem ty200_bytes : tyBytes Tryz.prog 200 = some 72 := by kernel_rfl
@[go_sem] theorem ty200_z : tyZ Tryz.prog 200 = some [.v (.int .i64 0), .v (.int .i64 0), .v (.int .i64 0), .v (.slice none 0 0), .v (.slice none 0 0)] := by kernel_rfl
@[go_sem] theorem ty200_fok : fieldsOk Tryz.prog 200 = true := by kernel_rfl
@[go_sem] theorem ty200_f0 : tyField Tryz.prog 200 0 = some (0, 3) := by kernel_rfl
@[go_sem] theorem ty200_f1 : tyField Tryz.prog 200 1 = some (1, 3) := by kernel_rfl
@[go_sem] theorem ty200_f2 : tyField Tryz.prog 200 2 = some (2, 197) := by kernel_rfl
@[go_sem] theorem ty200_f3 : tyField Tryz.prog 200 3 = some (4, 198) := by kernel_rfl
attribute [go_sem] Tryz.underlying200
@[go_sem] theorem ty202_size : tySize Tryz.prog 202 = some 25 := by kernel_rfl
@[go_sem] theorem ty202_agg : tyAgg Tryz.prog 202 = some true := by kernel_rfl
@[go_sem] theorem ty202_bytes : tyBytes Tryz.prog 202 = some 288 := by kernel_rfl
@[go_sem] theorem ty202_z : tyZ Tryz.prog 202 = some [.v (.int .i64 0), .v (.int .i64 0), .v (.int .i64 0), .v (.slice none 0 0), .v (.int .i64 0), .v (.int .i64 0), .v (.int .i64 0), .v (.int .i64 0), .v (.int .i64 0), .v (.int .i64 0), .v (.int .i64 0), .v (.string ByteArray.empty), .v (.slice none 0 0), .v (.int .i64 0), .v (.slice none 0 0), .v (.int .i64 0), .v (.int .i64 0), .v (.slice none 0 0), .v (.int .i64 0), .v (.int .i64 0), .v (.int .i64 0), .v (.int .i64 0), .v (.int .i64 0), .v (.bool false), .v (.slice none 0 0)] := by kernel_rfl
@[go_sem] theorem ty202_fok : fieldsOk Tryz.prog 202 = true := by kernel_rfl
@[go_sem] theorem ty202_f0 : tyField Tryz.prog 202 0 = some (0, 3) := by kernel_rfl
@[go_sem] theorem ty202_f1 : tyField Tryz.prog 202 1 = some (1, 3) := by kernel_rfl
@[go_sem] theorem ty202_f2 : tyField Tryz.prog 202 2 = some (2, 3) := by kernel_rfl
@[go_sem] theorem ty202_f3 : tyField Tryz.prog 202 3 = some (3, 26) := by kernel_rfl
@[go_sem] theorem ty202_f4 : tyField Tryz.prog 202 4 = some (4, 3) := by kernel_rfl
@[go_sem] theorem ty202_f5 : tyField Tryz.prog 202 5 = some (5, 33) := by kernel_rfl
@[go_sem] theorem ty202_f6 : tyField Tryz.prog 202 6 = some (15, 3) := by kernel_rfl
@[go_sem] theorem ty202_f7 : tyField Tryz.prog 202 7 = some (16, 3) := by kernel_rfl
@[go_sem] theorem ty202_f8 : tyField Tryz.prog 202 8 = some (17, 65) := by kernel_rfl
@[go_sem] theorem ty202_f9 : tyField Tryz.prog 202 9 = some (18, 3) := by kernel_rfl
@[go_sem] theorem ty202_f10 : tyField Tryz.prog 202 10 = some (19, 3) := by kernel_rfl
@[go_sem] theorem ty202_f11 : tyField Tryz.prog 202 11 = some (20, 3) := by kernel_rfl
@[go_sem] theorem ty202_f12 : tyField Tryz.prog 202 12 = some (21, 3) := by kernel_rfl
@[go_sem] theorem ty202_f13 : tyField Tryz.prog 202 13 = some (22, 3) := by kernel_rfl
@[go_sem] theorem ty202_f14 : tyField Tryz.prog 202 14 = some (23, 4) := by kernel_rfl
@[go_sem] theorem ty202_f15 : tyField Tryz.prog 202 15 = some (24, 23) := by kernel_rfl
attribute [go_sem] Tryz.underlying202
@[go_sem] theorem ty203_size : tySize Tryz.prog 203 = some 25 := by kernel_rfl
@[go_sem] theorem ty203_agg : tyAgg Tryz.prog 203 = some true := by kernel_rfl
@[go_sem] theorem ty203_bytes : tyBytes Tryz.prog 203 = some 288 := by kernel_rfl
@[go_sem] theorem ty203_z : tyZ Tryz.prog 203 = some [.v (.int .i64 0), .v (.int .i64 0), .v (.int .i64 0), .v (.slice none 0 0), .v (.int .i64 0), .v (.int .i64 0), .v (.int .i64 0), .v (.int .i64 0), .v (.int .i64 0), .v (.int .i64 0), .v (.int .i64 0), .v (.string ByteArray.empty), .v (.slice none 0 0), .v (.int .i64 0), .v (.slice none 0 0), .v (.int .i64 0), .v (.int .i64 0), .v (.slice none 0 0), .v (.int .i64 0), .v (.int .i64 0), .v (.int .i64 0), .v (.int .i64 0), .v (.int .i64 0), .v (.bool false), .v (.slice none 0 0)] := by kernel_rfl
@[go_sem] theorem ty203_fok : fieldsOk Tryz.prog 203 = true := by kernel_rfl
@[go_sem] theorem ty203_f0 : tyField Tryz.prog 203 0 = some (0, 3) := by kernel_rfl
@[go_sem] theorem ty203_f1 : tyField Tryz.prog 203 1 = some (1, 3) := by kernel_rfl
@[go_sem] theorem ty203_f2 : tyField Tryz.prog 203 2 = some (2, 3) := by kernel_rfl
@[go_sem] theorem ty203_f3 : tyField Tryz.prog 203 3 = some (3, 26) := by kernel_rfl
@[go_sem] theorem ty203_f4 : tyField Tryz.prog 203 4 = some (4, 3) := by kernel_rfl
@[go_sem] theorem ty203_f5 : tyField Tryz.prog 203 5 = some (5, 33) := by kernel_rfl
@[go_sem] theorem ty203_f6 : tyField Tryz.prog 203 6 = some (15, 3) := by kernel_rfl
@[go_sem] theorem ty203_f7 : tyField Tryz.prog 203 7 = some (16, 3) := by kernel_rfl
@[go_sem] theorem ty203_f8 : tyField Tryz.prog 203 8 = some (17, 65) := by kernel_rfl
@[go_sem] theorem ty203_f9 : tyField Tryz.prog 203 9 = some (18, 3) := by kernel_rfl
@[go_sem] theorem ty203_f10 : tyField Tryz.prog 203 10 = some (19, 3) := by kernel_rfl
@[go_sem] theorem ty203_f11 : tyField Tryz.prog 203 11 = some (20, 3) := by kernel_rfl
@[go_sem] theorem ty203_f12 : tyField Tryz.prog 203 12 = some (21, 3) := by kernel_rfl
@[go_sem] theorem ty203_f13 : tyField Tryz.prog 203 13 = some (22, 3) := by kernel_rfl
@[go_sem] theorem ty203_f14 : tyField Tryz.prog 203 14 = some (23, 4) := by kernel_rfl
@[go_sem] theorem ty203_f15 : tyField Tryz.prog 203 15 = some (24, 23) := by kernel_rfl
attribute [go_sem] Tryz.underlying203
@[go_sem] theorem ty205_size : tySize Tryz.prog 205 = some 5 := by kernel_rfl
@[go_sem] theorem ty205_agg : tyAgg Tryz.prog 205 = some true := by kernel_rfl
@[go_sem] theorem ty205_bytes : tyBytes Tryz.prog 205 = some 72 := by kernel_rfl
@[go_sem] theorem ty205_z : tyZ Tryz.prog 205 = some [.v (.int .i64 0), .v (.int .i64 0), .v (.int .i64 0), .v (.slice none 0 0), .v (.slice none 0 0)] := by kernel_rfl
@[go_sem] theorem ty205_fok : fieldsOk Tryz.prog 205 = true := by kernel_rfl
@[go_sem] theorem ty205_f0 : tyField Tryz.prog 205 0 = some (0, 3) := by kernel_rfl
@[go_sem] theorem ty205_f1 : tyField Tryz.prog 205 1 = some (1, 3) := by kernel_rfl
@[go_sem] theorem ty205_f2 : tyField Tryz.prog 205 2 = some (2, 167) := by kernel_rfl
@[go_sem] theorem ty205_f3 : tyField Tryz.prog 205 3 = some (4, 198) := by kernel_rfl
attribute [go_sem] Tryz.underlying205
@[go_sem] theorem ty206_size : tySize Tryz.prog 206 = some 5 := by kernel_rfl
@[go_sem] theorem ty206_agg : tyAgg Tryz.prog 206 = some true := by kernel_rfl
@[go_sem] theorem ty206_bytes : tyBytes Tryz.prog 206 = some 72 := by kernel_rfl
@[go_sem] theorem ty206_z : tyZ Tryz.prog 206 = some [.v (.int .i64 0), .v (.int .i64 0), .v (.int .i64 0), .v (.slice none 0 0), .v (.slice none 0 0)] := by kernel_rfl
@[go_sem] theorem ty206_fok : fieldsOk Tryz.prog 206 = true := by kernel_rfl
@[go_sem] theorem ty206_f0 : tyField Tryz.prog 206 0 = some (0, 3) := by kernel_rfl
@[go_sem] theorem ty206_f1 : tyField Tryz.prog 206 1 = some (1, 3) := by kernel_rfl
@[go_sem] theorem ty206_f2 : tyField Tryz.prog 206 2 = some (2, 167) := by kernel_rfl
@[go_sem] theorem ty206_f3 : tyField Tryz.prog 206 3 = some (4, 198) := by kernel_rfl
attribute [go_sem] Tryz.underlying206
@[go_sem] theorem ty208_size : tySize Tryz.prog 208 = some 3 := by kernel_rfl
@[go_sem] theorem ty208_agg : tyAgg Tryz.prog 208 = some true := by kernel_rfl
@[go_sem] theorem ty208_bytes : tyBytes Tryz.prog 208 = some 24 := by kernel_rfl
@[go_sem] theorem ty208_z : tyZ Tryz.prog 208 = some [.v (.int .i64 0), .v (.int .i64 0), .v (.int .i64 0)] := by kernel_rfl
@[go_sem] theorem ty208_fok : fieldsOk Tryz.prog 208 = true := by kernel_rfl
@[go_sem] theorem ty208_f0 : tyField Tryz.prog 208 0 = some (0, 3) := by kernel_rfl
@[go_sem] theorem ty208_f1 : tyField Tryz.prog 208 1 = some (1, 3) := by kernel_rfl
@[go_sem] theorem ty208_f2 : tyField Tryz.prog 208 2 = some (2, 3) := by kernel_rfl
attribute [go_sem] Tryz.underlying208
@[go_sem] theorem ty209_size : tySize Tryz.prog 209 = some 3 := by kernel_rfl
@[go_sem] theorem ty209_agg : tyAgg Tryz.prog 209 = some true := by kernel_rfl
@[go_sem] theorem ty209_bytes : tyBytes Tryz.prog 209 = some 24 := by kernel_rfl
@[go_sem] theorem ty209_z : tyZ Tryz.prog 209 = some [.v (.int .i64 0), .v (.int .i64 0), .v (.int .i64 0)] := by kernel_rfl
@[go_sem] theorem ty209_fok : fieldsOk Tryz.prog 209 = true := by kernel_rfl
@[go_sem] theorem ty209_f0 : tyField Tryz.prog 209 0 = some (0, 3) := by kernel_rfl
@[go_sem] theorem ty209_f1 : tyField Tryz.prog 209 1 = some (1, 3) := by kernel_rfl
@[go_sem] theorem ty209_f2 : tyField Tryz.prog 209 2 = some (2, 3) := by kernel_rfl
attribute [go_sem] Tryz.underlying209
@[go_sem] theorem ty211_size : tySize Tryz.prog 211 = some 3 := by kernel_rfl
@[go_sem] theorem ty211_agg : tyAgg Tryz.prog 211 = some true := by kernel_rfl
@[go_sem] theorem ty211_bytes : tyBytes Tryz.prog 211 = some 24 := by kernel_rfl
@[go_sem] theorem ty211_z : tyZ Tryz.prog 211 = some [.v (.int .i64 0), .v (.int .i64 0), .v (.int .i64 0)] := by kernel_rfl
@[go_sem] theorem ty211_fok : fieldsOk Tryz.prog 211 = true := by kernel_rfl
@[go_sem] theorem ty211_f0 : tyField Tryz.prog 211 0 = some (0, 3) := by kernel_rfl
@[go_sem] theorem ty211_f1 : tyField Tryz.prog 211 1 = some (1, 3) := by kernel_rfl
@[go_sem] theorem ty211_f2 : tyField Tryz.prog 211 2 = some (2, 3) := by kernel_rfl
attribute [go_sem] Tryz.underlying211
@[go_sem] theorem ty212_size : tySize Tryz.prog 212 = some 25 := by kernel_rfl
@[go_sem] theorem ty212_agg : tyAgg Tryz.prog 212 = some true := by kernel_rfl
@[go_sem] theorem ty212_bytes : tyBytes Tryz.prog 212 = some 288 := by kernel_rfl
@[go_sem] theorem ty212_z : tyZ Tryz.prog 212 = some [.v (.int .i64 0), .v (.int .i64 0), .v (.int .i64 0), .v (.slice none 0 0), .v (.int .i64 0), .v (.int .i64 0), .v (.int .i64 0), .v (.int .i64 0), .v (.int .i64 0), .v (.int .i64 0), .v (.int .i64 0), .v (.string ByteArray.empty), .v (.slice none 0 0), .v (.int .i64 0), .v (.slice none 0 0), .v (.int .i64 0), .v (.int .i64 0), .v (.slice none 0 0), .v (.int .i64 0), .v (.int .i64 0), .v (.int .i64 0), .v (.int .i64 0), .v (.int .i64 0), .v (.bool false), .v (.slice none 0 0)] := by kernel_rfl
@[go_sem] theorem ty212_fok : fieldsOk Tryz.prog 212 = true := by kernel_rfl
@[go_sem] theorem ty212_f0 : tyField Tryz.prog 212 0 = some (0, 3) := by kernel_rfl
@[go_sem] theorem ty212_f1 : tyField Tryz.prog 212 1 = some (1, 3) := by kernel_rfl
@[go_sem] theorem ty212_f2 : tyField Tryz.prog 212 2 = some (2, 3) := by kernel_rfl
@[go_sem] theorem ty212_f3 : tyField Tryz.prog 212 3 = some (3, 46) := by kernel_rfl
@[go_sem] theorem ty212_f4 : tyField Tryz.prog 212 4 = some (4, 3) := by kernel_rfl
@[go_sem] theorem ty212_f5 : tyField Tryz.prog 212 5 = some (5, 52) := by kernel_rfl
@[go_sem] theorem ty212_f6 : tyField Tryz.prog 212 6 = some (15, 3) := by kernel_rfl
@[go_sem] theorem ty212_f7 : tyField Tryz.prog 212 7 = some (16, 3) := by kernel_rfl
@[go_sem] theorem ty212_f8 : tyField Tryz.prog 212 8 = some (17, 78) := by kernel_rfl
@[go_sem] theorem ty212_f9 : tyField Tryz.prog 212 9 = some (18, 3) := by kernel_rfl
@[go_sem] theorem ty212_f10 : tyField Tryz.prog 212 10 = some (19, 3) := by kernel_rfl
@[go_sem] theorem ty212_f11 : tyField Tryz.prog 212 11 = some (20, 3) := by kernel_rfl
@[go_sem] theorem ty212_f12 : tyField Tryz.prog 212 12 = some (21, 3) := by kernel_rfl
@[go_sem] theorem ty212_f13 : tyField Tryz.prog 212 13 = some (22, 3) := by kernel_rfl
@[go_sem] theorem ty212_f14 : tyField Tryz.prog 212 14 = some (23, 4) := by kernel_rfl
@[go_sem] theorem ty212_f15 : tyField Tryz.prog 212 15 = some (24, 40) := by kernel_rfl
attribute [go_sem] Tryz.underlying212
@[go_sem] theorem ty213_size : tySize Tryz.prog 213 = some 25 := by kernel_rfl
@[go_sem] theorem ty213_agg : tyAgg Tryz.prog 213 = some true := by kernel_rfl
@[go_sem] theorem ty213_bytes : tyBytes Tryz.prog 213 = some 288 := by kernel_rfl
@[go_sem] theorem ty213_z : tyZ Tryz.prog 213 = some [.v (.int .i64 0), .v (.int .i64 0), .v (.int .i64 0), .v (.slice none 0 0), .v (.int .i64 0), .v (.int .i64 0), .v (.int .i64 0), .v (.int .i64 0), .v (.int .i64 0), .v (.int .i64 0), .v (.int .i64 0), .v (.string ByteArray.empty), .v (.slice none 0 0), .v (.int .i64 0), .v (.slice none 0 0), .v (.int .i64 0), .v (.int .i64 0), .v (.slice none 0 0), .v (.int .i64 0), .v (.int .i64 0), .v (.int .i64 0), .v (.int .i64 0), .v (.int .i64 0), .v (.bool false), .v (.slice none 0 0)] := by kernel_rfl
@[go_sem] theorem ty213_fok : fieldsOk Tryz.prog 213 = true := by kernel_rfl
@[go_sem] theorem ty213_f0 : tyField Tryz.prog 213 0 = some (0, 3) := by kernel_rfl
@[go_sem] theorem ty213_f1 : tyField Tryz.prog 213 1 = some (1, 3) := by kernel_rfl
@[go_sem] theorem ty213_f2 : tyField Tryz.prog 213 2 = some (2, 3) := by kernel_rfl
@[go_sem] theorem ty213_f3 : tyField Tryz.prog 213 3 = some (3, 46) := by kernel_rfl
@[go_sem] theorem ty213_f4 : tyField Tryz.prog 213 4 = some (4, 3) := by kernel_rfl
@[go_sem] theorem ty213_f5 : tyField Tryz.prog 213 5 = some (5, 52) := by kernel_rfl
@[go_sem] theorem ty213_f6 : tyField Tryz.prog 213 6 = some (15, 3) := by kernel_rfl
@[go_sem] theorem ty213_f7 : tyField Tryz.prog 213 7 = some (16, 3) := by kernel_rfl
@[go_sem] theorem ty213_f8 : tyField Tryz.prog 213 8 = some (17, 78) := by kernel_rfl
@[go_sem] theorem ty213_f9 : tyField Tryz.prog 213 9 = some (18, 3) := by kernel_rfl
@[go_sem] theorem ty213_f10 : tyField Tryz.prog 213 10 = some (19, 3) := by kernel_rfl
@[go_sem] theorem ty213_f11 : tyField Tryz.prog 213 11 = some (20, 3) := by kernel_rfl
@[go_sem] theorem ty213_f12 : tyField Tryz.prog 213 12 = some (21, 3) := by kernel_rfl
@[go_sem] theorem ty213_f13 : tyField Tryz.prog 213 13 = some (22, 3) := by kernel_rfl
@[go_sem] theorem ty213_f14 : tyField Tryz.prog 213 14 = some (23, 4) := by kernel_rfl
@[go_sem] theorem ty213_f15 : tyField Tryz.prog 213 15 = some (24, 40) := by kernel_rfl
attribute [go_sem] Tryz.underlying213
@[go_sem] theorem ty238_size : tySize Tryz.prog 238 = some 5 := by kernel_rfl
@[go_sem] theorem ty238_agg : tyAgg Tryz.prog 238 = some true := by kernel_rfl
@[go_sem] theorem ty238_bytes : tyBytes Tryz.prog 238 = some 40 := by kernel_rfl
@[go_sem] theorem ty238_z : tyZ Tryz.prog 238 = some [.v (.int .i64 0), .v (.int .i64 0), .v (.int .i64 0), .v (.int .i64 0), .v (.int .i64 0)] := by kernel_rfl
@[go_sem] theorem ty238_fok : fieldsOk Tryz.prog 238 = true := by kernel_rfl
@[go_sem] theorem ty238_f0 : tyField Tryz.prog 238 0 = some (0, 3) := by kernel_rfl
@[go_sem] theorem ty238_f1 : tyField Tryz.prog 238 1 = some (1, 3) := by kernel_rfl
@[go_sem] theorem ty238_f2 : tyField Tryz.prog 238 2 = some (2, 3) := by kernel_rfl
@[go_sem] theorem ty238_f3 : tyField Tryz.prog 238 3 = some (3, 3) := by kernel_rfl
@[go_sem] theorem ty238_f4 : tyField Tryz.prog 238 4 = some (4, 3) := by kernel_rfl
attribute [go_sem] Tryz.underlying238
@[go_sem] theorem ty266_size : tySize Tryz.prog 266 = some 2 := by kernel_rfl
@[go_sem] theorem ty266_agg : tyAgg Tryz.prog 266 = some true := by kernel_rfl
@[go_sem] theorem ty266_bytes : tyBytes Tryz.prog 266 = some 32 := by kernel_rfl
@[go_sem] theorem ty266_z : tyZ Tryz.prog 266 = some [.v (.int .i64 0), .v (.slice none 0 0)] := by kernel_rfl
@[go_sem] theorem ty266_fok : fieldsOk Tryz.prog 266 = true := by kernel_rfl
@[go_sem] theorem ty266_f0 : tyField Tryz.prog 266 0 = some (0, 3) := by kernel_rfl
@[go_sem] theorem ty266_f1 : tyField Tryz.prog 266 1 = some (1, 26) := by kernel_rfl
attribute [go_sem] Tryz.underlying266
@[go_sem] theorem ty267_size : tySize Tryz.prog 267 = some 2 := by kernel_rfl
@[go_sem] theorem ty267_agg : tyAgg Tryz.prog 267 = some true := by kernel_rfl
@[go_sem] theorem ty267_bytes : tyBytes Tryz.prog 267 = some 32 := by kernel_rfl
@[go_sem] theorem ty267_z : tyZ Tryz.prog 267 = some [.v (.int .i64 0), .v (.slice none 0 0)] := by kernel_rfl
@[go_sem] theorem ty267_fok : fieldsOk Tryz.prog 267 = true := by kernel_rfl
@[go_sem] theorem ty267_f0 : tyField Tryz.prog 267 0 = some (0, 3) := by kernel_rfl
@[go_sem] theorem ty267_f1 : tyField Tryz.prog 267 1 = some (1, 26) := by kernel_rfl
attribute [go_sem] Tryz.underlying267
@[go_sem] theorem ty274_size : tySize Tryz.prog 274 = some 1 := by kernel_rfl
@[go_sem] theorem ty274_agg : tyAgg Tryz.prog 274 = some false := by kernel_rfl
@[go_sem] theorem ty274_bytes : tyBytes Tryz.prog 274 = some 8 := by kernel_rfl
@[go_sem] theorem ty274_z : tyZ Tryz.prog 274 = some [.v (.int .u64 0)] := by kernel_rfl
attribute [go_sem] Tryz.underlying274
@[go_sem] theorem ty277_size : tySize Tryz.prog 277 = some 1 := by kernel_rfl
@[go_sem] theorem ty277_agg : tyAgg Tryz.prog 277 = some false := by kernel_rfl
@[go_sem] theorem ty277_bytes : tyBytes Tryz.prog 277 = some 24 := by kernel_rfl
@[go_sem] theorem ty277_z : tyZ Tryz.prog 277 = some [.v (.slice none 0 0)] := by kernel_rfl
@[go_sem] theorem ty277_elem : tyElem Tryz.prog 277 = some 279 := by kernel_rfl
attribute [go_sem] Tryz.underlying277
@[go_sem] theorem ty278_size : tySize Tryz.prog 278 = some 4 := by kernel_rfl
@[go_sem] theorem ty278_agg : tyAgg Tryz.prog 278 = some true := by kernel_rfl
@[go_sem] theorem ty278_bytes : tyBytes Tryz.prog 278 = some 40 := by kernel_rfl
@[go_sem] theorem ty278_z : tyZ Tryz.prog 278 = some [.v (.int .i64 0), .v (.int .i64 0), .v (.string ByteArray.empty), .v (.int .i64 0)] := by kernel_rfl
@[go_sem] theorem ty278_fok : fieldsOk Tryz.prog 278 = true := by kernel_rfl
@[go_sem] theorem ty278_f0 : tyField Tryz.prog 278 0 = some (0, 47) := by kernel_rfl
@[go_sem] theorem ty278_f1 : tyField Tryz.prog 278 1 = some (3, 3) := by kernel_rfl
attribute [go_sem] Tryz.underlying278
@[go_sem] theorem ty279_size : tySize Tryz.prog 279 = some 4 := by kernel_rfl
@[go_sem] theorem ty279_agg : tyAgg Tryz.prog 279 = some true := by kernel_rfl
@[go_sem] theorem ty279_bytes : tyBytes Tryz.prog 279 = some 40 := by kernel_rfl
@[go_sem] theorem ty279_z : tyZ Tryz.prog 279 = some [.v (.int .i64 0), .v (.int .i64 0), .v (.string ByteArray.empty), .v (.int .i64 0)] := by kernel_rfl
@[go_sem] theorem ty279_fok : fieldsOk Tryz.prog 279 = true := by kernel_rfl
@[go_sem] theorem ty279_f0 : tyField Tryz.prog 279 0 = some (0, 47) := by kernel_rfl
@[go_sem] theorem ty279_f1 : tyField Tryz.prog 279 1 = some (3, 3) := by kernel_rfl
attribute [go_sem] Tryz.underlying279
@[go_sem] theorem ty295_size : tySize Tryz.prog 295 = some 4 := by kernel_rfl
@[go_sem] theorem ty295_agg : tyAgg Tryz.prog 295 = some true := by kernel_rfl
@[go_sem] theorem ty295_bytes : tyBytes Tryz.prog 295 = some 40 := by kernel_rfl
@[go_sem] theorem ty295_z : tyZ Tryz.prog 295 = some [.v (.pointer none), .v (.pointer none), .v (.pointer none), .v (.string ByteArray.empty)] := by kernel_rfl
@[go_sem] theorem ty295_fok : fieldsOk Tryz.prog 295 = true := by kernel_rfl
@[go_sem] theorem ty295_f0 : tyField Tryz.prog 295 0 = some (0, 17) := by kernel_rfl
@[go_sem] theorem ty295_f1 : tyField Tryz.prog 295 1 = some (1, 17) := by kernel_rfl
@[go_sem] theorem ty295_f2 : tyField Tryz.prog 295 2 = some (2, 17) := by kernel_rfl
@[go_sem] theorem ty295_f3 : tyField Tryz.prog 295 3 = some (3, 9) := by kernel_rfl
attribute [go_sem] Tryz.underlying295
@[go_sem] theorem ty297_size : tySize Tryz.prog 297 = some 0 := by kernel_rfl
@[go_sem] theorem ty297_agg : tyAgg Tryz.prog 297 = some true := by kernel_rfl
@[go_sem] theorem ty297_bytes : tyBytes Tryz.prog 297 = some 0 := by kernel_rfl
@[go_sem] theorem ty297_z : tyZ Tryz.prog 297 = some [] := by kernel_rfl
attribute [go_sem] Tryz.underlying297
@[go_sem] theorem ty298_size : tySize Tryz.prog 298 = some 0 := by kernel_rfl
@[go_sem] theorem ty298_agg : tyAgg Tryz.prog 298 = some true := by kernel_rfl
@[go_sem] theorem ty298_bytes : tyBytes Tryz.prog 298 = some 0 := by kernel_rfl
@[go_sem] theorem ty298_z : tyZ Tryz.prog 298 = some [] := by kernel_rfl
@[go_sem] theorem ty298_fok : fieldsOk Tryz.prog 298 = true := by kernel_rfl
@[go_sem] theorem ty298_f0 : tyField Tryz.prog 298 0 = some (0, 297) := by kernel_rfl
attribute [go_sem] Tryz.underlying298
@[go_sem] theorem ty301_size : tySize Tryz.prog 301 = some 1 := by kernel_rfl
@[go_sem] theorem ty301_agg : tyAgg Tryz.prog 301 = some false := by kernel_rfl
@[go_sem] theorem ty301_bytes : tyBytes Tryz.prog 301 = some 4 := by kernel_rfl
@[go_sem] theorem ty301_z : tyZ Tryz.prog 301 = some [.v (.int .u32 0)] := by kernel_rfl
attribute [go_sem] Tryz.underlying301
@[go_sem] theorem ty308_size : tySize Tryz.prog 308 = some 11 := by kernel_rfl
@[go_sem] theorem ty308_agg : tyAgg Tryz.prog 308 = some true := by kernel_rfl
@[go_sem] theorem ty308_bytes : tyBytes Tryz.prog 308 = some 48 := by kernel_rfl
@[go_sem] theorem ty308_z : tyZ Tryz.prog 308 = some [.v (.int .u64 0), .v (.int .u64 0), .v (.int .u32 0), .v (.int .u8 0), .v (.int .u8 0), .v (.int .u8 0), .v (.int .u8 0), .v (.nilFunc), .v (.pointer none), .v (.int .i32 0), .v (.int .i32 0)] := by kernel_rfl
@[go_sem] theorem ty308_fok : fieldsOk Tryz.prog 308 = true := by kernel_rfl
@[go_sem] theorem ty308_f0 : tyField Tryz.prog 308 0 = some (0, 12) := by kernel_rfl
@[go_sem] theorem ty308_f1 : tyField Tryz.prog 308 1 = some (1, 12) := by kernel_rfl
@[go_sem] theorem ty308_f2 : tyField Tryz.prog 308 2 = some (2, 301) := by kernel_rfl
@[go_sem] theorem ty308_f3 : tyField Tryz.prog 308 3 = some (3, 302) := by kernel_rfl
@[go_sem] theorem ty308_f4 : tyField Tryz.prog 308 4 = some (4, 5) := by kernel_rfl
@[go_sem] theorem ty308_f5 : tyField Tryz.prog 308 5 = some (5, 5) := by kernel_rfl
@[go_sem] theorem ty308_f6 : tyField Tryz.prog 308 6 = some (6, 303) := by kernel_rfl
@[go_sem] theorem ty308_f7 : tyField Tryz.prog 308 7 = some (7, 304) := by kernel_rfl
@[go_sem] theorem ty308_f8 : tyField Tryz.prog 308 8 = some (8, 305) := by kernel_rfl
@[go_sem] theorem ty308_f9 : tyField Tryz.prog 308 9 = some (9, 306) := by kernel_rfl
@[go_sem] theorem ty308_f10 : tyField Tryz.prog 308 10 = some (10, 307) := by kernel_rfl
attribute [go_sem] Tryz.underlying308
@[go_sem] theorem ty310_size : tySize Tryz.prog 310 = some 1 := by kernel_rfl
@[go_sem] theorem ty310_agg : tyAgg Tryz.prog 310 = some false := by kernel_rfl
@[go_sem] theorem ty310_bytes : tyBytes Tryz.prog 310 = some 8 := by kernel_rfl
@[go_sem] theorem ty310_z : tyZ Tryz.prog 310 = some [.v (.pointer none)] := by kernel_rfl
attribute [go_sem] Tryz.underlying310
end Go.Proofs.YteiibjajcbiaoaaGreat
