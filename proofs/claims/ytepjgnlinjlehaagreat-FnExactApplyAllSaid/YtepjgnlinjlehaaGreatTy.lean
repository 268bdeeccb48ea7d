/- Facts on the types of this seat, by program (gen_ty.py). -/
import Derived.Test.YtepjgnlinjlehaaGreatVmU
import Derived.Test.YtepjgnlinjlehaaGreatRows
namespace Go.Proofs.YtepjgnlinjlehaaGreat
set_option linter.unusedSimpArgs false
set_option linter.unusedVariables false
open Go.Vm

theorem mixed : Tryz.prog.follows .mixedOrders = true := by kernel_rfl
@[go_sem] theorem ty2_size : tySize Tryz.prog 2 = some 1 := by kernel_rfl
@[go_sem] theorem ty2_agg : tyAgg Tryz.prog 2 = some false := by kernel_rfl
@[go_sem] theorem ty2_bytes : tyBytes Tryz.prog 2 = some 8 := by kernel_rfl
@[go_sem] theorem ty2_z : tyZ Tryz.prog 2 = some [.v (.int .i64 0)] := by kernel_rfl
attribute [go_sem] Tryz.underlying2
@[go_sem] theorem ty3_size : tySize Tryz.prog 3 = some 1 := by kernel_rfl
@[go_sem] theorem ty3_agg : tyAgg Tryz.prog 3 = some false := by kernel_rfl
@[go_sem] theorem ty3_bytes : tyBytes Tryz.prog 3 = some 8 := by kernel_rfl
@[go_sem] theorem ty3_z : tyZ Tryz.prog 3 = some [.v (.int .i64 0)] := by kernel_rfl
attribute [go_sem] Tryz.underlying3
@[go_sem] theorem ty4_size : tySize Tryz.prog 4 = some 1 := by kernel_rfl
@[go_sem] theorem ty4_agg : tyAgg Tryz.prog 4 = some false := by kernel_rfl
@[go_sem] theorem ty4_bytes : tyBytes Tryz.prog 4 = some 1 := by kernel_rfl
@[go_sem] theorem ty4_z : tyZ Tryz.prog 4 = some [.v (.bool false)] := by kernel_rfl
attribute [go_sem] Tryz.underlying4
@[go_sem] theorem ty5_size : tySize Tryz.prog 5 = some 1 := by kernel_rfl
@[go_sem] theorem ty5_agg : tyAgg Tryz.prog 5 = some false := by kernel_rfl
@[go_sem] theorem ty5_bytes : tyBytes Tryz.prog 5 = some 1 := by kernel_rfl
@[go_sem] theorem ty5_z : tyZ Tryz.prog 5 = some [.v (.int .u8 0)] := by kernel_rfl
attribute [go_sem] Tryz.underlying5
@[go_sem] theorem ty7_size : tySize Tryz.prog 7 = some 4 := by kernel_rfl
@[go_sem] theorem ty7_agg : tyAgg Tryz.prog 7 = some true := by kernel_rfl
@[go_sem] theorem ty7_bytes : tyBytes Tryz.prog 7 = some 24 := by kernel_rfl
@[go_sem] theorem ty7_z : tyZ Tryz.prog 7 = some [.v (.int .i64 0), .v (.int .i64 0), .v (.bool false), .v (.int .u8 0)] := by kernel_rfl
@[go_sem] theorem ty7_fok : fieldsOk Tryz.prog 7 = true := by kernel_rfl
@[go_sem] theorem ty7_f0 : tyField Tryz.prog 7 0 = some (0, 2) := by kernel_rfl
@[go_sem] theorem ty7_f1 : tyField Tryz.prog 7 1 = some (1, 3) := by kernel_rfl
@[go_sem] theorem ty7_f2 : tyField Tryz.prog 7 2 = some (2, 4) := by kernel_rfl
@[go_sem] theorem ty7_f3 : tyField Tryz.prog 7 3 = some (3, 6) := by kernel_rfl
attribute [go_sem] Tryz.underlying7
@[go_sem] theorem ty9_size : tySize Tryz.prog 9 = some 1 := by kernel_rfl
@[go_sem] theorem ty9_agg : tyAgg Tryz.prog 9 = some false := by kernel_rfl
@[go_sem] theorem ty9_bytes : tyBytes Tryz.prog 9 = some 16 := by kernel_rfl
@[go_sem] theorem ty9_z : tyZ Tryz.prog 9 = some [.v (.string ByteArray.empty)] := by kernel_rfl
attribute [go_sem] Tryz.underlying9
@[go_sem] theorem ty12_size : tySize Tryz.prog 12 = some 1 := by kernel_rfl
@[go_sem] theorem ty12_agg : tyAgg Tryz.prog 12 = some false := by kernel_rfl
@[go_sem] theorem ty12_bytes : tyBytes Tryz.prog 12 = some 8 := by kernel_rfl
@[go_sem] theorem ty12_z : tyZ Tryz.prog 12 = some [.v (.int .u64 0)] := by kernel_rfl
attribute [go_sem] Tryz.underlying12
@[go_sem] theorem ty13_size : tySize Tryz.prog 13 = some 2 := by kernel_rfl
@[go_sem] theorem ty13_agg : tyAgg Tryz.prog 13 = some true := by kernel_rfl
@[go_sem] theorem ty13_bytes : tyBytes Tryz.prog 13 = some 24 := by kernel_rfl
@[go_sem] theorem ty13_z : tyZ Tryz.prog 13 = some [.v (.string ByteArray.empty), .v (.int .u64 0)] := by kernel_rfl
@[go_sem] theorem ty13_fok : fieldsOk Tryz.prog 13 = true := by kernel_rfl
@[go_sem] theorem ty13_f0 : tyField Tryz.prog 13 0 = some (0, 9) := by kernel_rfl
@[go_sem] theorem ty13_f1 : tyField Tryz.prog 13 1 = some (1, 12) := by kernel_rfl
attribute [go_sem] Tryz.underlying13
@[go_sem] theorem ty18_size : tySize Tryz.prog 18 = some 1 := by kernel_rfl
@[go_sem] theorem ty18_agg : tyAgg Tryz.prog 18 = some true := by kernel_rfl
@[go_sem] theorem ty18_bytes : tyBytes Tryz.prog 18 = some 8 := by kernel_rfl
@[go_sem] theorem ty18_z : tyZ Tryz.prog 18 = some [.v (.pointer none)] := by kernel_rfl
@[go_sem] theorem ty18_fok : fieldsOk Tryz.prog 18 = true := by kernel_rfl
@[go_sem] theorem ty18_f0 : tyField Tryz.prog 18 0 = some (0, 17) := by kernel_rfl
attribute [go_sem] Tryz.underlying18
@[go_sem] theorem ty21_size : tySize Tryz.prog 21 = some 1 := by kernel_rfl
@[go_sem] theorem ty21_agg : tyAgg Tryz.prog 21 = some false := by kernel_rfl
@[go_sem] theorem ty21_bytes : tyBytes Tryz.prog 21 = some 4 := by kernel_rfl
@[go_sem] theorem ty21_z : tyZ Tryz.prog 21 = some [.v (.int .i32 0)] := by kernel_rfl
attribute [go_sem] Tryz.underlying21
@[go_sem] theorem ty22_size : tySize Tryz.prog 22 = some 1 := by kernel_rfl
@[go_sem] theorem ty22_agg : tyAgg Tryz.prog 22 = some false := by kernel_rfl
@[go_sem] theorem ty22_bytes : tyBytes Tryz.prog 22 = some 24 := by kernel_rfl
@[go_sem] theorem ty22_z : tyZ Tryz.prog 22 = some [.v (.slice none 0 0)] := by kernel_rfl
@[go_sem] theorem ty22_elem : tyElem Tryz.prog 22 = some 3 := by kernel_rfl
attribute [go_sem] Tryz.underlying22
@[go_sem] theorem ty23_size : tySize Tryz.prog 23 = some 1 := by kernel_rfl
@[go_sem] theorem ty23_agg : tyAgg Tryz.prog 23 = some false := by kernel_rfl
@[go_sem] theorem ty23_bytes : tyBytes Tryz.prog 23 = some 24 := by kernel_rfl
@[go_sem] theorem ty23_z : tyZ Tryz.prog 23 = some [.v (.slice none 0 0)] := by kernel_rfl
@[go_sem] theorem ty23_elem : tyElem Tryz.prog 23 = some 156 := by kernel_rfl
attribute [go_sem] Tryz.underlying23
@[go_sem] theorem ty24_size : tySize Tryz.prog 24 = some 2 := by kernel_rfl
@[go_sem] theorem ty24_agg : tyAgg Tryz.prog 24 = some true := by kernel_rfl
@[go_sem] theorem ty24_bytes : tyBytes Tryz.prog 24 = some 48 := by kernel_rfl
@[go_sem] theorem ty24_z : tyZ Tryz.prog 24 = some [.v (.slice none 0 0), .v (.slice none 0 0)] := by kernel_rfl
@[go_sem] theorem ty24_fok : fieldsOk Tryz.prog 24 = true := by kernel_rfl
@[go_sem] theorem ty24_f0 : tyField Tryz.prog 24 0 = some (0, 22) := by kernel_rfl
@[go_sem] theorem ty24_f1 : tyField Tryz.prog 24 1 = some (1, 23) := by kernel_rfl
attribute [go_sem] Tryz.underlying24
@[go_sem] theorem ty25_size : tySize Tryz.prog 25 = some 2 := by kernel_rfl
@[go_sem] theorem ty25_agg : tyAgg Tryz.prog 25 = some true := by kernel_rfl
@[go_sem] theorem ty25_bytes : tyBytes Tryz.prog 25 = some 48 := by kernel_rfl
@[go_sem] theorem ty25_z : tyZ Tryz.prog 25 = some [.v (.slice none 0 0), .v (.slice none 0 0)] := by kernel_rfl
@[go_sem] theorem ty25_fok : fieldsOk Tryz.prog 25 = true := by kernel_rfl
@[go_sem] theorem ty25_f0 : tyField Tryz.prog 25 0 = some (0, 22) := by kernel_rfl
@[go_sem] theorem ty25_f1 : tyField Tryz.prog 25 1 = some (1, 23) := by kernel_rfl
attribute [go_sem] Tryz.underlying25
@[go_sem] theorem ty26_size : tySize Tryz.prog 26 = some 1 := by kernel_rfl
@[go_sem] theorem ty26_agg : tyAgg Tryz.prog 26 = some false := by kernel_rfl
@[go_sem] theorem ty26_bytes : tyBytes Tryz.prog 26 = some 24 := by kernel_rfl
@[go_sem] theorem ty26_z : tyZ Tryz.prog 26 = some [.v (.slice none 0 0)] := by kernel_rfl
@[go_sem] theorem ty26_elem : tyElem Tryz.prog 26 = some 28 := by kernel_rfl
attribute [go_sem] Tryz.underlying26
@[go_sem] theorem ty27_size : tySize Tryz.prog 27 = some 3 := by kernel_rfl
@[go_sem] theorem ty27_agg : tyAgg Tryz.prog 27 = some true := by kernel_rfl
@[go_sem] theorem ty27_bytes : tyBytes Tryz.prog 27 = some 32 := by kernel_rfl
@[go_sem] theorem ty27_z : tyZ Tryz.prog 27 = some [.v (.int .i64 0), .v (.int .i64 0), .v (.string ByteArray.empty)] := by kernel_rfl
@[go_sem] theorem ty27_fok : fieldsOk Tryz.prog 27 = true := by kernel_rfl
@[go_sem] theorem ty27_f0 : tyField Tryz.prog 27 0 = some (0, 3) := by kernel_rfl
@[go_sem] theorem ty27_f1 : tyField Tryz.prog 27 1 = some (1, 3) := by kernel_rfl
@[go_sem] theorem ty27_f2 : tyField Tryz.prog 27 2 = some (2, 9) := by kernel_rfl
attribute [go_sem] Tryz.underlying27
@[go_sem] theorem ty28_size : tySize Tryz.prog 28 = some 3 := by kernel_rfl
@[go_sem] theorem ty28_agg : tyAgg Tryz.prog 28 = some true := by kernel_rfl
@[go_sem] theorem ty28_bytes : tyBytes Tryz.prog 28 = some 32 := by kernel_rfl
@[go_sem] theorem ty28_z : tyZ Tryz.prog 28 = some [.v (.int .i64 0), .v (.int .i64 0), .v (.string ByteArray.empty)] := by kernel_rfl
@[go_sem] theorem ty28_fok : fieldsOk Tryz.prog 28 = true := by kernel_rfl
@[go_sem] theorem ty28_f0 : tyField Tryz.prog 28 0 = some (0, 3) := by kernel_rfl
@[go_sem] theorem ty28_f1 : tyField Tryz.prog 28 1 = some (1, 3) := by kernel_rfl
@[go_sem] theorem ty28_f2 : tyField Tryz.prog 28 2 = some (2, 9) := by kernel_rfl
attribute [go_sem] Tryz.underlying28
@[go_sem] theorem ty29_size : tySize Tryz.prog 29 = some 1 := by kernel_rfl
@[go_sem] theorem ty29_agg : tyAgg Tryz.prog 29 = some false := by kernel_rfl
@[go_sem] theorem ty29_bytes : tyBytes Tryz.prog 29 = some 24 := by kernel_rfl
@[go_sem] theorem ty29_z : tyZ Tryz.prog 29 = some [.v (.slice none 0 0)] := by kernel_rfl
@[go_sem] theorem ty29_elem : tyElem Tryz.prog 29 = some 31 := by kernel_rfl
attribute [go_sem] Tryz.underlying29
@[go_sem] theorem ty30_size : tySize Tryz.prog 30 = some 7 := by kernel_rfl
@[go_sem] theorem ty30_agg : tyAgg Tryz.prog 30 = some true := by kernel_rfl
@[go_sem] theorem ty30_bytes : tyBytes Tryz.prog 30 = some 80 := by kernel_rfl
@[go_sem] theorem ty30_z : tyZ Tryz.prog 30 = some [.v (.int .i64 0), .v (.int .i64 0), .v (.int .i64 0), .v (.int .i64 0), .v (.int .i64 0), .v (.string ByteArray.empty), .v (.slice none 0 0)] := by kernel_rfl
@[go_sem] theorem ty30_fok : fieldsOk Tryz.prog 30 = true := by kernel_rfl
@[go_sem] theorem ty30_f0 : tyField Tryz.prog 30 0 = some (0, 3) := by kernel_rfl
@[go_sem] theorem ty30_f1 : tyField Tryz.prog 30 1 = some (1, 3) := by kernel_rfl
@[go_sem] theorem ty30_f2 : tyField Tryz.prog 30 2 = some (2, 3) := by kernel_rfl
@[go_sem] theorem ty30_f3 : tyField Tryz.prog 30 3 = some (3, 28) := by kernel_rfl
@[go_sem] theorem ty30_f4 : tyField Tryz.prog 30 4 = some (6, 29) := by kernel_rfl
attribute [go_sem] Tryz.underlying30
@[go_sem] theorem ty31_size : tySize Tryz.prog 31 = some 7 := by kernel_rfl
@[go_sem] theorem ty31_agg : tyAgg Tryz.prog 31 = some true := by kernel_rfl
@[go_sem] theorem ty31_bytes : tyBytes Tryz.prog 31 = some 80 := by kernel_rfl
@[go_sem] theorem ty31_z : tyZ Tryz.prog 31 = some [.v (.int .i64 0), .v (.int .i64 0), .v (.int .i64 0), .v (.int .i64 0), .v (.int .i64 0), .v (.string ByteArray.empty), .v (.slice none 0 0)] := by kernel_rfl
@[go_sem] theorem ty31_fok : fieldsOk Tryz.prog 31 = true := by kernel_rfl
@[go_sem] theorem ty31_f0 : tyField Tryz.prog 31 0 = some (0, 3) := by kernel_rfl
@[go_sem] theorem ty31_f1 : tyField Tryz.prog 31 1 = some (1, 3) := by kernel_rfl
@[go_sem] theorem ty31_f2 : tyField Tryz.prog 31 2 = some (2, 3) := by kernel_rfl
@[go_sem] theorem ty31_f3 : tyField Tryz.prog 31 3 = some (3, 28) := by kernel_rfl
@[go_sem] theorem ty31_f4 : tyField Tryz.prog 31 4 = some (6, 29) := by kernel_rfl
attribute [go_sem] Tryz.underlying31
@[go_sem] theorem ty32_size : tySize Tryz.prog 32 = some 10 := by kernel_rfl
@[go_sem] theorem ty32_agg : tyAgg Tryz.prog 32 = some true := by kernel_rfl
@[go_sem] theorem ty32_bytes : tyBytes Tryz.prog 32 = some 120 := by kernel_rfl
@[go_sem] theorem ty32_z : tyZ Tryz.prog 32 = some [.v (.int .i64 0), .v (.int .i64 0), .v (.int .i64 0), .v (.int .i64 0), .v (.int .i64 0), .v (.int .i64 0), .v (.string ByteArray.empty), .v (.slice none 0 0), .v (.int .i64 0), .v (.slice none 0 0)] := by kernel_rfl
@[go_sem] theorem ty32_fok : fieldsOk Tryz.prog 32 = true := by kernel_rfl
@[go_sem] theorem ty32_f0 : tyField Tryz.prog 32 0 = some (0, 3) := by kernel_rfl
@[go_sem] theorem ty32_f1 : tyField Tryz.prog 32 1 = some (1, 31) := by kernel_rfl
@[go_sem] theorem ty32_f2 : tyField Tryz.prog 32 2 = some (8, 3) := by kernel_rfl
@[go_sem] theorem ty32_f3 : tyField Tryz.prog 32 3 = some (9, 22) := by kernel_rfl
attribute [go_sem] Tryz.underlying32
@[go_sem] theorem ty33_size : tySize Tryz.prog 33 = some 10 := by kernel_rfl
@[go_sem] theorem ty33_agg : tyAgg Tryz.prog 33 = some true := by kernel_rfl
@[go_sem] theorem ty33_bytes : tyBytes Tryz.prog 33 = some 120 := by kernel_rfl
@[go_sem] theorem ty33_z : tyZ Tryz.prog 33 = some [.v (.int .i64 0), .v (.int .i64 0), .v (.int .i64 0), .v (.int .i64 0), .v (.int .i64 0), .v (.int .i64 0), .v (.string ByteArray.empty), .v (.slice none 0 0), .v (.int .i64 0), .v (.slice none 0 0)] := by kernel_rfl
@[go_sem] theorem ty33_fok : fieldsOk Tryz.prog 33 = true := by kernel_rfl
@[go_sem] theorem ty33_f0 : tyField Tryz.prog 33 0 = some (0, 3) := by kernel_rfl
@[go_sem] theorem ty33_f1 : tyField Tryz.prog 33 1 = some (1, 31) := by kernel_rfl
@[go_sem] theorem ty33_f2 : tyField Tryz.prog 33 2 = some (8, 3) := by kernel_rfl
@[go_sem] theorem ty33_f3 : tyField Tryz.prog 33 3 = some (9, 22) := by kernel_rfl
attribute [go_sem] Tryz.underlying33
@[go_sem] theorem ty34_size : tySize Tryz.prog 34 = some 6 := by kernel_rfl
@[go_sem] theorem ty34_agg : tyAgg Tryz.prog 34 = some true := by kernel_rfl
@[go_sem] theorem ty34_bytes : tyBytes Tryz.prog 34 = some 72 := by kernel_rfl
@[go_sem] theorem ty34_z : tyZ Tryz.prog 34 = some [.v (.slice none 0 0), .v (.int .i64 0), .v (.bool false), .v (.int .i64 0), .v (.int .i64 0), .v (.string ByteArray.empty)] := by kernel_rfl
@[go_sem] theorem ty34_fok : fieldsOk Tryz.prog 34 = true := by kernel_rfl
@[go_sem] theorem ty34_f0 : tyField Tryz.prog 34 0 = some (0, 23) := by kernel_rfl
@[go_sem] theorem ty34_f1 : tyField Tryz.prog 34 1 = some (1, 3) := by kernel_rfl
@[go_sem] theorem ty34_f2 : tyField Tryz.prog 34 2 = some (2, 4) := by kernel_rfl
@[go_sem] theorem ty34_f3 : tyField Tryz.prog 34 3 = some (3, 28) := by kernel_rfl
attribute [go_sem] Tryz.underlying34
@[go_sem] theorem ty35_size : tySize Tryz.prog 35 = some 6 := by kernel_rfl
@[go_sem] theorem ty35_agg : tyAgg Tryz.prog 35 = some true := by kernel_rfl
@[go_sem] theorem ty35_bytes : tyBytes Tryz.prog 35 = some 72 := by kernel_rfl
@[go_sem] theorem ty35_z : tyZ Tryz.prog 35 = some [.v (.slice none 0 0), .v (.int .i64 0), .v (.bool false), .v (.int .i64 0), .v (.int .i64 0), .v (.string ByteArray.empty)] := by kernel_rfl
@[go_sem] theorem ty35_fok : fieldsOk Tryz.prog 35 = true := by kernel_rfl
@[go_sem] theorem ty35_f0 : tyField Tryz.prog 35 0 = some (0, 23) := by kernel_rfl
@[go_sem] theorem ty35_f1 : tyField Tryz.prog 35 1 = some (1, 3) := by kernel_rfl
@[go_sem] theorem ty35_f2 : tyField Tryz.prog 35 2 = some (2, 4) := by kernel_rfl
@[go_sem] theorem ty35_f3 : tyField Tryz.prog 35 3 = some (3, 28) := by kernel_rfl
attribute [go_sem] Tryz.underlying35
@[go_sem] theorem ty36_size : tySize Tryz.prog 36 = some 25 := by kernel_rfl
@[go_sem] theorem ty36_agg : tyAgg Tryz.prog 36 = some true := by kernel_rfl
@[go_sem] theorem ty36_bytes : tyBytes Tryz.prog 36 = some 280 := by kernel_rfl
@[go_sem] theorem ty36_z : tyZ Tryz.prog 36 = some [.v (.int .i64 0), .v (.int .i64 0), .v (.slice none 0 0), .v (.int .i64 0), .v (.int .i64 0), .v (.int .i64 0), .v (.int .i64 0), .v (.int .i64 0), .v (.int .i64 0), .v (.int .i64 0), .v (.string ByteArray.empty), .v (.slice none 0 0), .v (.int .i64 0), .v (.slice none 0 0), .v (.slice none 0 0), .v (.int .i64 0), .v (.bool false), .v (.int .i64 0), .v (.int .i64 0), .v (.string ByteArray.empty), .v (.int .i64 0), .v (.int .i64 0), .v (.int .i64 0), .v (.int .i64 0), .v (.int .i64 0)] := by kernel_rfl
@[go_sem] theorem ty36_fok : fieldsOk Tryz.prog 36 = true := by kernel_rfl
@[go_sem] theorem ty36_f0 : tyField Tryz.prog 36 0 = some (0, 3) := by kernel_rfl
@[go_sem] theorem ty36_f1 : tyField Tryz.prog 36 1 = some (1, 3) := by kernel_rfl
@[go_sem] theorem ty36_f2 : tyField Tryz.prog 36 2 = some (2, 26) := by kernel_rfl
@[go_sem] theorem ty36_f3 : tyField Tryz.prog 36 3 = some (3, 3) := by kernel_rfl
@[go_sem] theorem ty36_f4 : tyField Tryz.prog 36 4 = some (4, 33) := by kernel_rfl
@[go_sem] theorem ty36_f5 : tyField Tryz.prog 36 5 = some (14, 35) := by kernel_rfl
@[go_sem] theorem ty36_f6 : tyField Tryz.prog 36 6 = some (20, 3) := by kernel_rfl
@[go_sem] theorem ty36_f7 : tyField Tryz.prog 36 7 = some (21, 3) := by kernel_rfl
@[go_sem] theorem ty36_f8 : tyField Tryz.prog 36 8 = some (22, 3) := by kernel_rfl
@[go_sem] theorem ty36_f9 : tyField Tryz.prog 36 9 = some (23, 3) := by kernel_rfl
@[go_sem] theorem ty36_f10 : tyField Tryz.prog 36 10 = some (24, 3) := by kernel_rfl
attribute [go_sem] Tryz.underlying36
@[go_sem] theorem ty37_size : tySize Tryz.prog 37 = some 25 := by kernel_rfl
@[go_sem] theorem ty37_agg : tyAgg Tryz.prog 37 = some true := by kernel_rfl
@[go_sem] theorem ty37_bytes : tyBytes Tryz.prog 37 = some 280 := by kernel_rfl
@[go_sem] theorem ty37_z : tyZ Tryz.prog 37 = some [.v (.int .i64 0), .v (.int .i64 0), .v (.slice none 0 0), .v (.int .i64 0), .v (.int .i64 0), .v (.int .i64 0), .v (.int .i64 0), .v (.int .i64 0), .v (.int .i64 0), .v (.int .i64 0), .v (.string ByteArray.empty), .v (.slice none 0 0), .v (.int .i64 0), .v (.slice none 0 0), .v (.slice none 0 0), .v (.int .i64 0), .v (.bool false), .v (.int .i64 0), .v (.int .i64 0), .v (.string ByteArray.empty), .v (.int .i64 0), .v (.int .i64 0), .v (.int .i64 0), .v (.int .i64 0), .v (.int .i64 0)] := by kernel_rfl
@[go_sem] theorem ty37_fok : fieldsOk Tryz.prog 37 = true := by kernel_rfl
@[go_sem] theorem ty37_f0 : tyField Tryz.prog 37 0 = some (0, 3) := by kernel_rfl
@[go_sem] theorem ty37_f1 : tyField Tryz.prog 37 1 = some (1, 3) := by kernel_rfl
@[go_sem] theorem ty37_f2 : tyField Tryz.prog 37 2 = some (2, 26) := by kernel_rfl
@[go_sem] theorem ty37_f3 : tyField Tryz.prog 37 3 = some (3, 3) := by kernel_rfl
@[go_sem] theorem ty37_f4 : tyField Tryz.prog 37 4 = some (4, 33) := by kernel_rfl
@[go_sem] theorem ty37_f5 : tyField Tryz.prog 37 5 = some (14, 35) := by kernel_rfl
@[go_sem] theorem ty37_f6 : tyField Tryz.prog 37 6 = some (20, 3) := by kernel_rfl
@[go_sem] theorem ty37_f7 : tyField Tryz.prog 37 7 = some (21, 3) := by kernel_rfl
@[go_sem] theorem ty37_f8 : tyField Tryz.prog 37 8 = some (22, 3) := by kernel_rfl
@[go_sem] theorem ty37_f9 : tyField Tryz.prog 37 9 = some (23, 3) := by kernel_rfl
@[go_sem] theorem ty37_f10 : tyField Tryz.prog 37 10 = some (24, 3) := by kernel_rfl
attribute [go_sem] Tryz.underlying37
@[go_sem] theorem ty40_size : tySize Tryz.prog 40 = some 1 := by kernel_rfl
@[go_sem] theorem ty40_agg : tyAgg Tryz.prog 40 = some false := by kernel_rfl
@[go_sem] theorem ty40_bytes : tyBytes Tryz.prog 40 = some 24 := by kernel_rfl
@[go_sem] theorem ty40_z : tyZ Tryz.prog 40 = some [.v (.slice none 0 0)] := by kernel_rfl
@[go_sem] theorem ty40_elem : tyElem Tryz.prog 40 = some 113 := by kernel_rfl
attribute [go_sem] Tryz.underlying40
@[go_sem] theorem ty41_size : tySize Tryz.prog 41 = some 2 := by kernel_rfl
@[go_sem] theorem ty41_agg : tyAgg Tryz.prog 41 = some true := by kernel_rfl
@[go_sem] theorem ty41_bytes : tyBytes Tryz.prog 41 = some 48 := by kernel_rfl
@[go_sem] theorem ty41_z : tyZ Tryz.prog 41 = some [.v (.slice none 0 0), .v (.slice none 0 0)] := by kernel_rfl
@[go_sem] theorem ty41_fok : fieldsOk Tryz.prog 41 = true := by kernel_rfl
@[go_sem] theorem ty41_f0 : tyField Tryz.prog 41 0 = some (0, 22) := by kernel_rfl
@[go_sem] theorem ty41_f1 : tyField Tryz.prog 41 1 = some (1, 40) := by kernel_rfl
attribute [go_sem] Tryz.underlying41
@[go_sem] theorem ty42_size : tySize Tryz.prog 42 = some 2 := by kernel_rfl
@[go_sem] theorem ty42_agg : tyAgg Tryz.prog 42 = some true := by kernel_rfl
@[go_sem] theorem ty42_bytes : tyBytes Tryz.prog 42 = some 48 := by kernel_rfl
@[go_sem] theorem ty42_z : tyZ Tryz.prog 42 = some [.v (.slice none 0 0), .v (.slice none 0 0)] := by kernel_rfl
@[go_sem] theorem ty42_fok : fieldsOk Tryz.prog 42 = true := by kernel_rfl
@[go_sem] theorem ty42_f0 : tyField Tryz.prog 42 0 = some (0, 22) := by kernel_rfl
@[go_sem] theorem ty42_f1 : tyField Tryz.prog 42 1 = some (1, 40) := by kernel_rfl
attribute [go_sem] Tryz.underlying42
@[go_sem] theorem ty46_size : tySize Tryz.prog 46 = some 1 := by kernel_rfl
@[go_sem] theorem ty46_agg : tyAgg Tryz.prog 46 = some false := by kernel_rfl
@[go_sem] theorem ty46_bytes : tyBytes Tryz.prog 46 = some 24 := by kernel_rfl
@[go_sem] theorem ty46_z : tyZ Tryz.prog 46 = some [.v (.slice none 0 0)] := by kernel_rfl
@[go_sem] theorem ty46_elem : tyElem Tryz.prog 46 = some 47 := by kernel_rfl
attribute [go_sem] Tryz.underlying46
@[go_sem] theorem ty47_size : tySize Tryz.prog 47 = some 3 := by kernel_rfl
@[go_sem] theorem ty47_agg : tyAgg Tryz.prog 47 = some true := by kernel_rfl
@[go_sem] theorem ty47_bytes : tyBytes Tryz.prog 47 = some 32 := by kernel_rfl
@[go_sem] theorem ty47_z : tyZ Tryz.prog 47 = some [.v (.int .i64 0), .v (.int .i64 0), .v (.string ByteArray.empty)] := by kernel_rfl
@[go_sem] theorem ty47_fok : fieldsOk Tryz.prog 47 = true := by kernel_rfl
@[go_sem] theorem ty47_eqs : eqShape Tryz.prog 47 = some [.int .i64, .int .i64, .str] := by kernel_rfl
@[go_sem] theorem ty47_f0 : tyField Tryz.prog 47 0 = some (0, 3) := by kernel_rfl
@[go_sem] theorem ty47_f1 : tyField Tryz.prog 47 1 = some (1, 3) := by kernel_rfl
@[go_sem] theorem ty47_f2 : tyField Tryz.prog 47 2 = some (2, 9) := by kernel_rfl
attribute [go_sem] Tryz.underlying47
@[go_sem] theorem ty48_size : tySize Tryz.prog 48 = some 1 := by kernel_rfl
@[go_sem] theorem ty48_agg : tyAgg Tryz.prog 48 = some false := by kernel_rfl
@[go_sem] theorem ty48_bytes : tyBytes Tryz.prog 48 = some 24 := by kernel_rfl
@[go_sem] theorem ty48_z : tyZ Tryz.prog 48 = some [.v (.slice none 0 0)] := by kernel_rfl
@[go_sem] theorem ty48_elem : tyElem Tryz.prog 48 = some 50 := by kernel_rfl
attribute [go_sem] Tryz.underlying48
@[go_sem] theorem ty49_size : tySize Tryz.prog 49 = some 7 := by kernel_rfl
@[go_sem] theorem ty49_agg : tyAgg Tryz.prog 49 = some true := by kernel_rfl
@[go_sem] theorem ty49_bytes : tyBytes Tryz.prog 49 = some 80 := by kernel_rfl
@[go_sem] theorem ty49_z : tyZ Tryz.prog 49 = some [.v (.int .i64 0), .v (.int .i64 0), .v (.int .i64 0), .v (.int .i64 0), .v (.int .i64 0), .v (.string ByteArray.empty), .v (.slice none 0 0)] := by kernel_rfl
@[go_sem] theorem ty49_fok : fieldsOk Tryz.prog 49 = true := by kernel_rfl
@[go_sem] theorem ty49_f0 : tyField Tryz.prog 49 0 = some (0, 3) := by kernel_rfl
@[go_sem] theorem ty49_f1 : tyField Tryz.prog 49 1 = some (1, 3) := by kernel_rfl
@[go_sem] theorem ty49_f2 : tyField Tryz.prog 49 2 = some (2, 3) := by kernel_rfl
@[go_sem] theorem ty49_f3 : tyField Tryz.prog 49 3 = some (3, 47) := by kernel_rfl
@[go_sem] theorem ty49_f4 : tyField Tryz.prog 49 4 = some (6, 48) := by kernel_rfl
attribute [go_sem] Tryz.underlying49
@[go_sem] theorem ty50_size : tySize Tryz.prog 50 = some 7 := by kernel_rfl
@[go_sem] theorem ty50_agg : tyAgg Tryz.prog 50 = some true := by kernel_rfl
@[go_sem] theorem ty50_bytes : tyBytes Tryz.prog 50 = some 80 := by kernel_rfl
@[go_sem] theorem ty50_z : tyZ Tryz.prog 50 = some [.v (.int .i64 0), .v (.int .i64 0), .v (.int .i64 0), .v (.int .i64 0), .v (.int .i64 0), .v (.string ByteArray.empty), .v (.slice none 0 0)] := by kernel_rfl
@[go_sem] theorem ty50_fok : fieldsOk Tryz.prog 50 = true := by kernel_rfl
@[go_sem] theorem ty50_f0 : tyField Tryz.prog 50 0 = some (0, 3) := by kernel_rfl
@[go_sem] theorem ty50_f1 : tyField Tryz.prog 50 1 = some (1, 3) := by kernel_rfl
@[go_sem] theorem ty50_f2 : tyField Tryz.prog 50 2 = some (2, 3) := by kernel_rfl
@[go_sem] theorem ty50_f3 : tyField Tryz.prog 50 3 = some (3, 47) := by kernel_rfl
@[go_sem] theorem ty50_f4 : tyField Tryz.prog 50 4 = some (6, 48) := by kernel_rfl
attribute [go_sem] Tryz.underlying50
@[go_sem] theorem ty51_size : tySize Tryz.prog 51 = some 10 := by kernel_rfl
@[go_sem] theorem ty51_agg : tyAgg Tryz.prog 51 = some true := by kernel_rfl
@[go_sem] theorem ty51_bytes : tyBytes Tryz.prog 51 = some 120 := by kernel_rfl
@[go_sem] theorem ty51_z : tyZ Tryz.prog 51 = some [.v (.int .i64 0), .v (.int .i64 0), .v (.int .i64 0), .v (.int .i64 0), .v (.int .i64 0), .v (.int .i64 0), .v (.string ByteArray.empty), .v (.slice none 0 0), .v (.int .i64 0), .v (.slice none 0 0)] := by kernel_rfl
@[go_sem] theorem ty51_fok : fieldsOk Tryz.prog 51 = true := by kernel_rfl
@[go_sem] theorem ty51_f0 : tyField Tryz.prog 51 0 = some (0, 3) := by kernel_rfl
@[go_sem] theorem ty51_f1 : tyField Tryz.prog 51 1 = some (1, 50) := by kernel_rfl
@[go_sem] theorem ty51_f2 : tyField Tryz.prog 51 2 = some (8, 3) := by kernel_rfl
@[go_sem] theorem ty51_f3 : tyField Tryz.prog 51 3 = some (9, 22) := by kernel_rfl
attribute [go_sem] Tryz.underlying51
@[go_sem] theorem ty52_size : tySize Tryz.prog 52 = some 10 := by kernel_rfl
@[go_sem] theorem ty52_agg : tyAgg Tryz.prog 52 = some true := by kernel_rfl
@[go_sem] theorem ty52_bytes : tyBytes Tryz.prog 52 = some 120 := by kernel_rfl
@[go_sem] theorem ty52_z : tyZ Tryz.prog 52 = some [.v (.int .i64 0), .v (.int .i64 0), .v (.int .i64 0), .v (.int .i64 0), .v (.int .i64 0), .v (.int .i64 0), .v (.string ByteArray.empty), .v (.slice none 0 0), .v (.int .i64 0), .v (.slice none 0 0)] := by kernel_rfl
@[go_sem] theorem ty52_fok : fieldsOk Tryz.prog 52 = true := by kernel_rfl
@[go_sem] theorem ty52_f0 : tyField Tryz.prog 52 0 = some (0, 3) := by kernel_rfl
@[go_sem] theorem ty52_f1 : tyField Tryz.prog 52 1 = some (1, 50) := by kernel_rfl
@[go_sem] theorem ty52_f2 : tyField Tryz.prog 52 2 = some (8, 3) := by kernel_rfl
@[go_sem] theorem ty52_f3 : tyField Tryz.prog 52 3 = some (9, 22) := by kernel_rfl
attribute [go_sem] Tryz.underlying52
@[go_sem] theorem ty53_size : tySize Tryz.prog 53 = some 6 := by kernel_rfl
@[go_sem] theorem ty53_agg : tyAgg Tryz.prog 53 = some true := by kernel_rfl
@[go_sem] theorem ty53_bytes : tyBytes Tryz.prog 53 = some 72 := by kernel_rfl
@[go_sem] theorem ty53_z : tyZ Tryz.prog 53 = some [.v (.slice none 0 0), .v (.int .i64 0), .v (.bool false), .v (.int .i64 0), .v (.int .i64 0), .v (.string ByteArray.empty)] := by kernel_rfl
@[go_sem] theorem ty53_fok : fieldsOk Tryz.prog 53 = true := by kernel_rfl
@[go_sem] theorem ty53_f0 : tyField Tryz.prog 53 0 = some (0, 40) := by kernel_rfl
@[go_sem] theorem ty53_f1 : tyField Tryz.prog 53 1 = some (1, 3) := by kernel_rfl
@[go_sem] theorem ty53_f2 : tyField Tryz.prog 53 2 = some (2, 4) := by kernel_rfl
@[go_sem] theorem ty53_f3 : tyField Tryz.prog 53 3 = some (3, 47) := by kernel_rfl
attribute [go_sem] Tryz.underlying53
@[go_sem] theorem ty54_size : tySize Tryz.prog 54 = some 6 := by kernel_rfl
@[go_sem] theorem ty54_agg : tyAgg Tryz.prog 54 = some true := by kernel_rfl
@[go_sem] theorem ty54_bytes : tyBytes Tryz.prog 54 = some 72 := by kernel_rfl
@[go_sem] theorem ty54_z : tyZ Tryz.prog 54 = some [.v (.slice none 0 0), .v (.int .i64 0), .v (.bool false), .v (.int .i64 0), .v (.int .i64 0), .v (.string ByteArray.empty)] := by kernel_rfl
@[go_sem] theorem ty54_fok : fieldsOk Tryz.prog 54 = true := by kernel_rfl
@[go_sem] theorem ty54_f0 : tyField Tryz.prog 54 0 = some (0, 40) := by kernel_rfl
@[go_sem] theorem ty54_f1 : tyField Tryz.prog 54 1 = some (1, 3) := by kernel_rfl
@[go_sem] theorem ty54_f2 : tyField Tryz.prog 54 2 = some (2, 4) := by kernel_rfl
@[go_sem] theorem ty54_f3 : tyField Tryz.prog 54 3 = some (3, 47) := by kernel_rfl
attribute [go_sem] Tryz.underlying54
@[go_sem] theorem ty55_size : tySize Tryz.prog 55 = some 25 := by kernel_rfl
@[go_sem] theorem ty55_agg : tyAgg Tryz.prog 55 = some true := by kernel_rfl
@[go_sem] theorem ty55_bytes : tyBytes Tryz.prog 55 = some 280 := by kernel_rfl
@[go_sem] theorem ty55_z : tyZ Tryz.prog 55 = some [.v (.int .i64 0), .v (.int .i64 0), .v (.slice none 0 0), .v (.int .i64 0), .v (.int .i64 0), .v (.int .i64 0), .v (.int .i64 0), .v (.int .i64 0), .v (.int .i64 0), .v (.int .i64 0), .v (.string ByteArray.empty), .v (.slice none 0 0), .v (.int .i64 0), .v (.slice none 0 0), .v (.slice none 0 0), .v (.int .i64 0), .v (.bool false), .v (.int .i64 0), .v (.int .i64 0), .v (.string ByteArray.empty), .v (.int .i64 0), .v (.int .i64 0), .v (.int .i64 0), .v (.int .i64 0), .v (.int .i64 0)] := by kernel_rfl
@[go_sem] theorem ty55_fok : fieldsOk Tryz.prog 55 = true := by kernel_rfl
@[go_sem] theorem ty55_f0 : tyField Tryz.prog 55 0 = some (0, 3) := by kernel_rfl
@[go_sem] theorem ty55_f1 : tyField Tryz.prog 55 1 = some (1, 3) := by kernel_rfl
@[go_sem] theorem ty55_f2 : tyField Tryz.prog 55 2 = some (2, 46) := by kernel_rfl
@[go_sem] theorem ty55_f3 : tyField Tryz.prog 55 3 = some (3, 3) := by kernel_rfl
@[go_sem] theorem ty55_f4 : tyField Tryz.prog 55 4 = some (4, 52) := by kernel_rfl
@[go_sem] theorem ty55_f5 : tyField Tryz.prog 55 5 = some (14, 54) := by kernel_rfl
@[go_sem] theorem ty55_f6 : tyField Tryz.prog 55 6 = some (20, 3) := by kernel_rfl
@[go_sem] theorem ty55_f7 : tyField Tryz.prog 55 7 = some (21, 3) := by kernel_rfl
@[go_sem] theorem ty55_f8 : tyField Tryz.prog 55 8 = some (22, 3) := by kernel_rfl
@[go_sem] theorem ty55_f9 : tyField Tryz.prog 55 9 = some (23, 3) := by kernel_rfl
@[go_sem] theorem ty55_f10 : tyField Tryz.prog 55 10 = some (24, 3) := by kernel_rfl
attribute [go_sem] Tryz.underlying55
@[go_sem] theorem ty56_size : tySize Tryz.prog 56 = some 25 := by kernel_rfl
@[go_sem] theorem ty56_agg : tyAgg Tryz.prog 56 = some true := by kernel_rfl
@[go_sem] theorem ty56_bytes : tyBytes Tryz.prog 56 = some 280 := by kernel_rfl
@[go_sem] theorem ty56_z : tyZ Tryz.prog 56 = some [.v (.int .i64 0), .v (.int .i64 0), .v (.slice none 0 0), .v (.int .i64 0), .v (.int .i64 0), .v (.int .i64 0), .v (.int .i64 0), .v (.int .i64 0), .v (.int .i64 0), .v (.int .i64 0), .v (.string ByteArray.empty), .v (.slice none 0 0), .v (.int .i64 0), .v (.slice none 0 0), .v (.slice none 0 0), .v (.int .i64 0), .v (.bool false), .v (.int .i64 0), .v (.int .i64 0), .v (.string ByteArray.empty), .v (.int .i64 0), .v (.int .i64 0), .v (.int .i64 0), .v (.int .i64 0), .v (.int .i64 0)] := by kernel_rfl
@[go_sem] theorem ty56_fok : fieldsOk Tryz.prog 56 = true := by kernel_rfl
@[go_sem] theorem ty56_f0 : tyField Tryz.prog 56 0 = some (0, 3) := by kernel_rfl
@[go_sem] theorem ty56_f1 : tyField Tryz.prog 56 1 = some (1, 3) := by kernel_rfl
@[go_sem] theorem ty56_f2 : tyField Tryz.prog 56 2 = some (2, 46) := by kernel_rfl
@[go_sem] theorem ty56_f3 : tyField Tryz.prog 56 3 = some (3, 3) := by kernel_rfl
@[go_sem] theorem ty56_f4 : tyField Tryz.prog 56 4 = some (4, 52) := by kernel_rfl
@[go_sem] theorem ty56_f5 : tyField Tryz.prog 56 5 = some (14, 54) := by kernel_rfl
@[go_sem] theorem ty56_f6 : tyField Tryz.prog 56 6 = some (20, 3) := by kernel_rfl
@[go_sem] theorem ty56_f7 : tyField Tryz.prog 56 7 = some (21, 3) := by kernel_rfl
@[go_sem] theorem ty56_f8 : tyField Tryz.prog 56 8 = some (22, 3) := by kernel_rfl
@[go_sem] theorem ty56_f9 : tyField Tryz.prog 56 9 = some (23, 3) := by kernel_rfl
@[go_sem] theorem ty56_f10 : tyField Tryz.prog 56 10 = some (24, 3) := by kernel_rfl
attribute [go_sem] Tryz.underlying56
@[go_sem] theorem ty63_size : tySize Tryz.prog 63 = some 1 := by kernel_rfl
@[go_sem] theorem ty63_agg : tyAgg Tryz.prog 63 = some false := by kernel_rfl
@[go_sem] theorem ty63_bytes : tyBytes Tryz.prog 63 = some 24 := by kernel_rfl
@[go_sem] theorem ty63_z : tyZ Tryz.prog 63 = some [.v (.slice none 0 0)] := by kernel_rfl
@[go_sem] theorem ty63_elem : tyElem Tryz.prog 63 = some 37 := by kernel_rfl
attribute [go_sem] Tryz.underlying63
@[go_sem] theorem ty67_size : tySize Tryz.prog 67 = some 1 := by kernel_rfl
@[go_sem] theorem ty67_agg : tyAgg Tryz.prog 67 = some false := by kernel_rfl
@[go_sem] theorem ty67_bytes : tyBytes Tryz.prog 67 = some 24 := by kernel_rfl
@[go_sem] theorem ty67_z : tyZ Tryz.prog 67 = some [.v (.slice none 0 0)] := by kernel_rfl
@[go_sem] theorem ty67_elem : tyElem Tryz.prog 67 = some 56 := by kernel_rfl
attribute [go_sem] Tryz.underlying67
@[go_sem] theorem ty72_size : tySize Tryz.prog 72 = some 3 := by kernel_rfl
@[go_sem] theorem ty72_agg : tyAgg Tryz.prog 72 = some true := by kernel_rfl
@[go_sem] theorem ty72_bytes : tyBytes Tryz.prog 72 = some 40 := by kernel_rfl
@[go_sem] theorem ty72_z : tyZ Tryz.prog 72 = some [.v (.slice none 0 0), .v (.int .i64 0), .v (.int .i64 0)] := by kernel_rfl
@[go_sem] theorem ty72_fok : fieldsOk Tryz.prog 72 = true := by kernel_rfl
@[go_sem] theorem ty72_f0 : tyField Tryz.prog 72 0 = some (0, 22) := by kernel_rfl
@[go_sem] theorem ty72_f1 : tyField Tryz.prog 72 1 = some (1, 3) := by kernel_rfl
@[go_sem] theorem ty72_f2 : tyField Tryz.prog 72 2 = some (2, 3) := by kernel_rfl
attribute [go_sem] Tryz.underlying72
@[go_sem] theorem ty73_size : tySize Tryz.prog 73 = some 3 := by kernel_rfl
@[go_sem] theorem ty73_agg : tyAgg Tryz.prog 73 = some true := by kernel_rfl
@[go_sem] theorem ty73_bytes : tyBytes Tryz.prog 73 = some 40 := by kernel_rfl
@[go_sem] theorem ty73_z : tyZ Tryz.prog 73 = some [.v (.slice none 0 0), .v (.int .i64 0), .v (.int .i64 0)] := by kernel_rfl
@[go_sem] theorem ty73_fok : fieldsOk Tryz.prog 73 = true := by kernel_rfl
@[go_sem] theorem ty73_f0 : tyField Tryz.prog 73 0 = some (0, 22) := by kernel_rfl
@[go_sem] theorem ty73_f1 : tyField Tryz.prog 73 1 = some (1, 3) := by kernel_rfl
@[go_sem] theorem ty73_f2 : tyField Tryz.prog 73 2 = some (2, 3) := by kernel_rfl
attribute [go_sem] Tryz.underlying73
@[go_sem] theorem ty74_size : tySize Tryz.prog 74 = some 1 := by kernel_rfl
@[go_sem] theorem ty74_agg : tyAgg Tryz.prog 74 = some false := by kernel_rfl
@[go_sem] theorem ty74_bytes : tyBytes Tryz.prog 74 = some 24 := by kernel_rfl
@[go_sem] theorem ty74_z : tyZ Tryz.prog 74 = some [.v (.slice none 0 0)] := by kernel_rfl
@[go_sem] theorem ty74_elem : tyElem Tryz.prog 74 = some 228 := by kernel_rfl
attribute [go_sem] Tryz.underlying74
@[go_sem] theorem ty75_size : tySize Tryz.prog 75 = some 2 := by kernel_rfl
@[go_sem] theorem ty75_agg : tyAgg Tryz.prog 75 = some true := by kernel_rfl
@[go_sem] theorem ty75_bytes : tyBytes Tryz.prog 75 = some 32 := by kernel_rfl
@[go_sem] theorem ty75_z : tyZ Tryz.prog 75 = some [.v (.int .i64 0), .v (.slice none 0 0)] := by kernel_rfl
@[go_sem] theorem ty75_fok : fieldsOk Tryz.prog 75 = true := by kernel_rfl
@[go_sem] theorem ty75_f0 : tyField Tryz.prog 75 0 = some (0, 3) := by kernel_rfl
@[go_sem] theorem ty75_f1 : tyField Tryz.prog 75 1 = some (1, 74) := by kernel_rfl
attribute [go_sem] Tryz.underlying75
@[go_sem] theorem ty76_size : tySize Tryz.prog 76 = some 2 := by kernel_rfl
@[go_sem] theorem ty76_agg : tyAgg Tryz.prog 76 = some true := by kernel_rfl
@[go_sem] theorem ty76_bytes : tyBytes Tryz.prog 76 = some 32 := by kernel_rfl
@[go_sem] theorem ty76_z : tyZ Tryz.prog 76 = some [.v (.int .i64 0), .v (.slice none 0 0)] := by kernel_rfl
@[go_sem] theorem ty76_fok : fieldsOk Tryz.prog 76 = true := by kernel_rfl
@[go_sem] theorem ty76_f0 : tyField Tryz.prog 76 0 = some (0, 3) := by kernel_rfl
@[go_sem] theorem ty76_f1 : tyField Tryz.prog 76 1 = some (1, 74) := by kernel_rfl
attribute [go_sem] Tryz.underlying76
@[go_sem] theorem ty77_size : tySize Tryz.prog 77 = some 1 := by kernel_rfl
@[go_sem] theorem ty77_agg : tyAgg Tryz.prog 77 = some false := by kernel_rfl
@[go_sem] theorem ty77_bytes : tyBytes Tryz.prog 77 = some 24 := by kernel_rfl
@[go_sem] theorem ty77_z : tyZ Tryz.prog 77 = some [.v (.slice none 0 0)] := by kernel_rfl
@[go_sem] theorem ty77_elem : tyElem Tryz.prog 77 = some 186 := by kernel_rfl
attribute [go_sem] Tryz.underlying77
@[go_sem] theorem ty78_size : tySize Tryz.prog 78 = some 1 := by kernel_rfl
@[go_sem] theorem ty78_agg : tyAgg Tryz.prog 78 = some false := by kernel_rfl
@[go_sem] theorem ty78_bytes : tyBytes Tryz.prog 78 = some 24 := by kernel_rfl
@[go_sem] theorem ty78_z : tyZ Tryz.prog 78 = some [.v (.slice none 0 0)] := by kernel_rfl
@[go_sem] theorem ty78_elem : tyElem Tryz.prog 78 = some 201 := by kernel_rfl
attribute [go_sem] Tryz.underlying78
@[go_sem] theorem ty79_size : tySize Tryz.prog 79 = some 1 := by kernel_rfl
@[go_sem] theorem ty79_agg : tyAgg Tryz.prog 79 = some false := by kernel_rfl
@[go_sem] theorem ty79_bytes : tyBytes Tryz.prog 79 = some 24 := by kernel_rfl
@[go_sem] theorem ty79_z : tyZ Tryz.prog 79 = some [.v (.slice none 0 0)] := by kernel_rfl
@[go_sem] theorem ty79_elem : tyElem Tryz.prog 79 = some 189 := by kernel_rfl
attribute [go_sem] Tryz.underlying79
@[go_sem] theorem ty80_size : tySize Tryz.prog 80 = some 14 := by kernel_rfl
@[go_sem] theorem ty80_agg : tyAgg Tryz.prog 80 = some true := by kernel_rfl
@[go_sem] theorem ty80_bytes : tyBytes Tryz.prog 80 = some 240 := by kernel_rfl
@[go_sem] theorem ty80_z : tyZ Tryz.prog 80 = some [.v (.slice none 0 0), .v (.int .i64 0), .v (.int .i64 0), .v (.int .i64 0), .v (.int .i64 0), .v (.int .i64 0), .v (.int .i64 0), .v (.slice none 0 0), .v (.slice none 0 0), .v (.slice none 0 0), .v (.slice none 0 0), .v (.slice none 0 0), .v (.slice none 0 0), .v (.slice none 0 0)] := by kernel_rfl
@[go_sem] theorem ty80_fok : fieldsOk Tryz.prog 80 = true := by kernel_rfl
@[go_sem] theorem ty80_f0 : tyField Tryz.prog 80 0 = some (0, 73) := by kernel_rfl
@[go_sem] theorem ty80_f1 : tyField Tryz.prog 80 1 = some (3, 3) := by kernel_rfl
@[go_sem] theorem ty80_f2 : tyField Tryz.prog 80 2 = some (4, 3) := by kernel_rfl
@[go_sem] theorem ty80_f3 : tyField Tryz.prog 80 3 = some (5, 3) := by kernel_rfl
@[go_sem] theorem ty80_f4 : tyField Tryz.prog 80 4 = some (6, 76) := by kernel_rfl
@[go_sem] theorem ty80_f5 : tyField Tryz.prog 80 5 = some (8, 77) := by kernel_rfl
@[go_sem] theorem ty80_f6 : tyField Tryz.prog 80 6 = some (9, 22) := by kernel_rfl
@[go_sem] theorem ty80_f7 : tyField Tryz.prog 80 7 = some (10, 78) := by kernel_rfl
@[go_sem] theorem ty80_f8 : tyField Tryz.prog 80 8 = some (11, 22) := by kernel_rfl
@[go_sem] theorem ty80_f9 : tyField Tryz.prog 80 9 = some (12, 79) := by kernel_rfl
@[go_sem] theorem ty80_f10 : tyField Tryz.prog 80 10 = some (13, 63) := by kernel_rfl
attribute [go_sem] Tryz.underlying80
@[go_sem] theorem ty81_size : tySize Tryz.prog 81 = some 14 := by kernel_rfl
@[go_sem] theorem ty81_agg : tyAgg Tryz.prog 81 = some true := by kernel_rfl
@[go_sem] theorem ty81_bytes : tyBytes Tryz.prog 81 = some 240 := by kernel_rfl
@[go_sem] theorem ty81_z : tyZ Tryz.prog 81 = some [.v (.slice none 0 0), .v (.int .i64 0), .v (.int .i64 0), .v (.int .i64 0), .v (.int .i64 0), .v (.int .i64 0), .v (.int .i64 0), .v (.slice none 0 0), .v (.slice none 0 0), .v (.slice none 0 0), .v (.slice none 0 0), .v (.slice none 0 0), .v (.slice none 0 0), .v (.slice none 0 0)] := by kernel_rfl
@[go_sem] theorem ty81_fok : fieldsOk Tryz.prog 81 = true := by kernel_rfl
@[go_sem] theorem ty81_f0 : tyField Tryz.prog 81 0 = some (0, 73) := by kernel_rfl
@[go_sem] theorem ty81_f1 : tyField Tryz.prog 81 1 = some (3, 3) := by kernel_rfl
@[go_sem] theorem ty81_f2 : tyField Tryz.prog 81 2 = some (4, 3) := by kernel_rfl
@[go_sem] theorem ty81_f3 : tyField Tryz.prog 81 3 = some (5, 3) := by kernel_rfl
@[go_sem] theorem ty81_f4 : tyField Tryz.prog 81 4 = some (6, 76) := by kernel_rfl
@[go_sem] theorem ty81_f5 : tyField Tryz.prog 81 5 = some (8, 77) := by kernel_rfl
@[go_sem] theorem ty81_f6 : tyField Tryz.prog 81 6 = some (9, 22) := by kernel_rfl
@[go_sem] theorem ty81_f7 : tyField Tryz.prog 81 7 = some (10, 78) := by kernel_rfl
@[go_sem] theorem ty81_f8 : tyField Tryz.prog 81 8 = some (11, 22) := by kernel_rfl
@[go_sem] theorem ty81_f9 : tyField Tryz.prog 81 9 = some (12, 79) := by kernel_rfl
@[go_sem] theorem ty81_f10 : tyField Tryz.prog 81 10 = some (13, 63) := by kernel_rfl
attribute [go_sem] Tryz.underlying81
@[go_sem] theorem ty84_size : tySize Tryz.prog 84 = some 3 := by kernel_rfl
@[go_sem] theorem ty84_agg : tyAgg Tryz.prog 84 = some true := by kernel_rfl
@[go_sem] theorem ty84_bytes : tyBytes Tryz.prog 84 = some 40 := by kernel_rfl
@[go_sem] theorem ty84_z : tyZ Tryz.prog 84 = some [.v (.slice none 0 0), .v (.int .i64 0), .v (.int .i64 0)] := by kernel_rfl
@[go_sem] theorem ty84_fok : fieldsOk Tryz.prog 84 = true := by kernel_rfl
@[go_sem] theorem ty84_f0 : tyField Tryz.prog 84 0 = some (0, 22) := by kernel_rfl
@[go_sem] theorem ty84_f1 : tyField Tryz.prog 84 1 = some (1, 3) := by kernel_rfl
@[go_sem] theorem ty84_f2 : tyField Tryz.prog 84 2 = some (2, 3) := by kernel_rfl
attribute [go_sem] Tryz.underlying84
@[go_sem] theorem ty85_size : tySize Tryz.prog 85 = some 1 := by kernel_rfl
@[go_sem] theorem ty85_agg : tyAgg Tryz.prog 85 = some false := by kernel_rfl
@[go_sem] theorem ty85_bytes : tyBytes Tryz.prog 85 = some 24 := by kernel_rfl
@[go_sem] theorem ty85_z : tyZ Tryz.prog 85 = some [.v (.slice none 0 0)] := by kernel_rfl
@[go_sem] theorem ty85_elem : tyElem Tryz.prog 85 = some 226 := by kernel_rfl
attribute [go_sem] Tryz.underlying85
@[go_sem] theorem ty86_size : tySize Tryz.prog 86 = some 2 := by kernel_rfl
@[go_sem] theorem ty86_agg : tyAgg Tryz.prog 86 = some true := by kernel_rfl
@[go_sem] theorem ty86_bytes : tyBytes Tryz.prog 86 = some 32 := by kernel_rfl
@[go_sem] theorem ty86_z : tyZ Tryz.prog 86 = some [.v (.int .i64 0), .v (.slice none 0 0)] := by kernel_rfl
@[go_sem] theorem ty86_fok : fieldsOk Tryz.prog 86 = true := by kernel_rfl
@[go_sem] theorem ty86_f0 : tyField Tryz.prog 86 0 = some (0, 3) := by kernel_rfl
@[go_sem] theorem ty86_f1 : tyField Tryz.prog 86 1 = some (1, 85) := by kernel_rfl
attribute [go_sem] Tryz.underlying86
@[go_sem] theorem ty87_size : tySize Tryz.prog 87 = some 2 := by kernel_rfl
@[go_sem] theorem ty87_agg : tyAgg Tryz.prog 87 = some true := by kernel_rfl
@[go_sem] theorem ty87_bytes : tyBytes Tryz.prog 87 = some 32 := by kernel_rfl
@[go_sem] theorem ty87_z : tyZ Tryz.prog 87 = some [.v (.int .i64 0), .v (.slice none 0 0)] := by kernel_rfl
@[go_sem] theorem ty87_fok : fieldsOk Tryz.prog 87 = true := by kernel_rfl
@[go_sem] theorem ty87_f0 : tyField Tryz.prog 87 0 = some (0, 3) := by kernel_rfl
@[go_sem] theorem ty87_f1 : tyField Tryz.prog 87 1 = some (1, 85) := by kernel_rfl
attribute [go_sem] Tryz.underlying87
@[go_sem] theorem ty88_size : tySize Tryz.prog 88 = some 1 := by kernel_rfl
@[go_sem] theorem ty88_agg : tyAgg Tryz.prog 88 = some false := by kernel_rfl
@[go_sem] theorem ty88_bytes : tyBytes Tryz.prog 88 = some 24 := by kernel_rfl
@[go_sem] theorem ty88_z : tyZ Tryz.prog 88 = some [.v (.slice none 0 0)] := by kernel_rfl
@[go_sem] theorem ty88_elem : tyElem Tryz.prog 88 = some 196 := by kernel_rfl
attribute [go_sem] Tryz.underlying88
@[go_sem] theorem ty89_size : tySize Tryz.prog 89 = some 1 := by kernel_rfl
@[go_sem] theorem ty89_agg : tyAgg Tryz.prog 89 = some false := by kernel_rfl
@[go_sem] theorem ty89_bytes : tyBytes Tryz.prog 89 = some 24 := by kernel_rfl
@[go_sem] theorem ty89_z : tyZ Tryz.prog 89 = some [.v (.slice none 0 0)] := by kernel_rfl
@[go_sem] theorem ty89_elem : tyElem Tryz.prog 89 = some 199 := by kernel_rfl
attribute [go_sem] Tryz.underlying89
@[go_sem] theorem ty90_size : tySize Tryz.prog 90 = some 1 := by kernel_rfl
@[go_sem] theorem ty90_agg : tyAgg Tryz.prog 90 = some false := by kernel_rfl
@[go_sem] theorem ty90_bytes : tyBytes Tryz.prog 90 = some 24 := by kernel_rfl
@[go_sem] theorem ty90_z : tyZ Tryz.prog 90 = some [.v (.slice none 0 0)] := by kernel_rfl
@[go_sem] theorem ty90_elem : tyElem Tryz.prog 90 = some 203 := by kernel_rfl
attribute [go_sem] Tryz.underlying90
@[go_sem] theorem ty91_size : tySize Tryz.prog 91 = some 14 := by kernel_rfl
@[go_sem] theorem ty91_agg : tyAgg Tryz.prog 91 = some true := by kernel_rfl
@[go_sem] theorem ty91_bytes : tyBytes Tryz.prog 91 = some 240 := by kernel_rfl
@[go_sem] theorem ty91_z : tyZ Tryz.prog 91 = some [.v (.slice none 0 0), .v (.int .i64 0), .v (.int .i64 0), .v (.int .i64 0), .v (.int .i64 0), .v (.int .i64 0), .v (.int .i64 0), .v (.slice none 0 0), .v (.slice none 0 0), .v (.slice none 0 0), .v (.slice none 0 0), .v (.slice none 0 0), .v (.slice none 0 0), .v (.slice none 0 0)] := by kernel_rfl
@[go_sem] theorem ty91_fok : fieldsOk Tryz.prog 91 = true := by kernel_rfl
@[go_sem] theorem ty91_f0 : tyField Tryz.prog 91 0 = some (0, 84) := by kernel_rfl
@[go_sem] theorem ty91_f1 : tyField Tryz.prog 91 1 = some (3, 3) := by kernel_rfl
@[go_sem] theorem ty91_f2 : tyField Tryz.prog 91 2 = some (4, 3) := by kernel_rfl
@[go_sem] theorem ty91_f3 : tyField Tryz.prog 91 3 = some (5, 3) := by kernel_rfl
@[go_sem] theorem ty91_f4 : tyField Tryz.prog 91 4 = some (6, 87) := by kernel_rfl
@[go_sem] theorem ty91_f5 : tyField Tryz.prog 91 5 = some (8, 88) := by kernel_rfl
@[go_sem] theorem ty91_f6 : tyField Tryz.prog 91 6 = some (9, 22) := by kernel_rfl
@[go_sem] theorem ty91_f7 : tyField Tryz.prog 91 7 = some (10, 89) := by kernel_rfl
@[go_sem] theorem ty91_f8 : tyField Tryz.prog 91 8 = some (11, 22) := by kernel_rfl
@[go_sem] theorem ty91_f9 : tyField Tryz.prog 91 9 = some (12, 90) := by kernel_rfl
@[go_sem] theorem ty91_f10 : tyField Tryz.prog 91 10 = some (13, 67) := by kernel_rfl
attribute [go_sem] Tryz.underlying91
@[go_sem] theorem ty92_size : tySize Tryz.prog 92 = some 14 := by kernel_rfl
@[go_sem] theorem ty92_agg : tyAgg Tryz.prog 92 = some true := by kernel_rfl
@[go_sem] theorem ty92_bytes : tyBytes Tryz.prog 92 = some 240 := by kernel_rfl
@[go_sem] theorem ty92_z : tyZ Tryz.prog 92 = some [.v (.slice none 0 0), .v (.int .i64 0), .v (.int .i64 0), .v (.int .i64 0), .v (.int .i64 0), .v (.int .i64 0), .v (.int .i64 0), .v (.slice none 0 0), .v (.slice none 0 0), .v (.slice none 0 0), .v (.slice none 0 0), .v (.slice none 0 0), .v (.slice none 0 0), .v (.slice none 0 0)] := by kernel_rfl
@[go_sem] theorem ty92_fok : fieldsOk Tryz.prog 92 = true := by kernel_rfl
@[go_sem] theorem ty92_f0 : tyField Tryz.prog 92 0 = some (0, 84) := by kernel_rfl
@[go_sem] theorem ty92_f1 : tyField Tryz.prog 92 1 = some (3, 3) := by kernel_rfl
@[go_sem] theorem ty92_f2 : tyField Tryz.prog 92 2 = some (4, 3) := by kernel_rfl
@[go_sem] theorem ty92_f3 : tyField Tryz.prog 92 3 = some (5, 3) := by kernel_rfl
@[go_sem] theorem ty92_f4 : tyField Tryz.prog 92 4 = some (6, 87) := by kernel_rfl
@[go_sem] theorem ty92_f5 : tyField Tryz.prog 92 5 = some (8, 88) := by kernel_rfl
@[go_sem] theorem ty92_f6 : tyField Tryz.prog 92 6 = some (9, 22) := by kernel_rfl
@[go_sem] theorem ty92_f7 : tyField Tryz.prog 92 7 = some (10, 89) := by kernel_rfl
@[go_sem] theorem ty92_f8 : tyField Tryz.prog 92 8 = some (11, 22) := by kernel_rfl
@[go_sem] theorem ty92_f9 : tyField Tryz.prog 92 9 = some (12, 90) := by kernel_rfl
@[go_sem] theorem ty92_f10 : tyField Tryz.prog 92 10 = some (13, 67) := by kernel_rfl
attribute [go_sem] Tryz.underlying92
@[go_sem] theorem ty112_size : tySize Tryz.prog 112 = some 2 := by kernel_rfl
@[go_sem] theorem ty112_agg : tyAgg Tryz.prog 112 = some true := by kernel_rfl
@[go_sem] theorem ty112_bytes : tyBytes Tryz.prog 112 = some 32 := by kernel_rfl
@[go_sem] theorem ty112_z : tyZ Tryz.prog 112 = some [.v (.int .i64 0), .v (.slice none 0 0)] := by kernel_rfl
@[go_sem] theorem ty112_fok : fieldsOk Tryz.prog 112 = true := by kernel_rfl
@[go_sem] theorem ty112_f0 : tyField Tryz.prog 112 0 = some (0, 3) := by kernel_rfl
@[go_sem] theorem ty112_f1 : tyField Tryz.prog 112 1 = some (1, 46) := by kernel_rfl
attribute [go_sem] Tryz.underlying112
@[go_sem] theorem ty113_size : tySize Tryz.prog 113 = some 2 := by kernel_rfl
@[go_sem] theorem ty113_agg : tyAgg Tryz.prog 113 = some true := by kernel_rfl
@[go_sem] theorem ty113_bytes : tyBytes Tryz.prog 113 = some 32 := by kernel_rfl
@[go_sem] theorem ty113_z : tyZ Tryz.prog 113 = some [.v (.int .i64 0), .v (.slice none 0 0)] := by kernel_rfl
@[go_sem] theorem ty113_fok : fieldsOk Tryz.prog 113 = true := by kernel_rfl
@[go_sem] theorem ty113_f0 : tyField Tryz.prog 113 0 = some (0, 3) := by kernel_rfl
@[go_sem] theorem ty113_f1 : tyField Tryz.prog 113 1 = some (1, 46) := by kernel_rfl
attribute [go_sem] Tryz.underlying113
@[go_sem] theorem ty155_size : tySize Tryz.prog 155 = some 2 := by kernel_rfl
@[go_sem] theorem ty155_agg : tyAgg Tryz.prog 155 = some true := by kernel_rfl
@[go_sem] theorem ty155_bytes : tyBytes Tryz.prog 155 = some 32 := by kernel_rfl
@[go_sem] theorem ty155_z : tyZ Tryz.prog 155 = some [.v (.int .i64 0), .v (.slice none 0 0)] := by kernel_rfl
@[go_sem] theorem ty155_fok : fieldsOk Tryz.prog 155 = true := by kernel_rfl
@[go_sem] theorem ty155_f0 : tyField Tryz.prog 155 0 = some (0, 3) := by kernel_rfl
@[go_sem] theorem ty155_f1 : tyField Tryz.prog 155 1 = some (1, 26) := by kernel_rfl
attribute [go_sem] Tryz.underlying155
@[go_sem] theorem ty156_size : tySize Tryz.prog 156 = some 2 := by kernel_rfl
@[go_sem] theorem ty156_agg : tyAgg Tryz.prog 156 = some true := by kernel_rfl
@[go_sem] theorem ty156_bytes : tyBytes Tryz.prog 156 = some 32 := by kernel_rfl
@[go_sem] theorem ty156_z : tyZ Tryz.prog 156 = some [.v (.int .i64 0), .v (.slice none 0 0)] := by kernel_rfl
@[go_sem] theorem ty156_fok : fieldsOk Tryz.prog 156 = true := by kernel_rfl
@[go_sem] theorem ty156_f0 : tyField Tryz.prog 156 0 = some (0, 3) := by kernel_rfl
@[go_sem] theorem ty156_f1 : tyField Tryz.prog 156 1 = some (1, 26) := by kernel_rfl
attribute [go_sem] Tryz.underlying156
@[go_sem] theorem ty172_size : tySize Tryz.prog 172 = some 6 := by kernel_rfl
@[go_sem] theorem ty172_agg : tyAgg Tryz.prog 172 = some true := by kernel_rfl
@[go_sem] theorem ty172_bytes : tyBytes Tryz.prog 172 = some 64 := by kernel_rfl
@[go_sem] theorem ty172_z : tyZ Tryz.prog 172 = some [.v (.int .i64 0), .v (.int .i64 0), .v (.string ByteArray.empty), .v (.int .i64 0), .v (.int .i64 0), .v (.string ByteArray.empty)] := by kernel_rfl
@[go_sem] theorem ty172_fok : fieldsOk Tryz.prog 172 = true := by kernel_rfl
@[go_sem] theorem ty172_f0 : tyField Tryz.prog 172 0 = some (0, 47) := by kernel_rfl
@[go_sem] theorem ty172_f1 : tyField Tryz.prog 172 1 = some (3, 47) := by kernel_rfl
attribute [go_sem] Tryz.underlying172
@[go_sem] theorem ty173_size : tySize Tryz.prog 173 = some 6 := by kernel_rfl
@[go_sem] theorem ty173_agg : tyAgg Tryz.prog 173 = some true := by kernel_rfl
@[go_sem] theorem ty173_bytes : tyBytes Tryz.prog 173 = some 64 := by kernel_rfl
@[go_sem] theorem ty173_z : tyZ Tryz.prog 173 = some [.v (.int .i64 0), .v (.int .i64 0), .v (.string ByteArray.empty), .v (.int .i64 0), .v (.int .i64 0), .v (.string ByteArray.empty)] := by kernel_rfl
@[go_sem] theorem ty173_fok : fieldsOk Tryz.prog 173 = true := by kernel_rfl
@[go_sem] theorem ty173_f0 : tyField Tryz.prog 173 0 = some (0, 47) := by kernel_rfl
@[go_sem] theorem ty173_f1 : tyField Tryz.prog 173 1 = some (3, 47) := by kernel_rfl
attribute [go_sem] Tryz.underlying173
@[go_sem] theorem ty179_size : tySize Tryz.prog 179 = some 1 := by kernel_rfl
@[go_sem] theorem ty179_agg : tyAgg Tryz.prog 179 = some false := by kernel_rfl
@[go_sem] theorem ty179_bytes : tyBytes Tryz.prog 179 = some 24 := by kernel_rfl
@[go_sem] theorem ty179_z : tyZ Tryz.prog 179 = some [.v (.slice none 0 0)] := by kernel_rfl
@[go_sem] theorem ty179_elem : tyElem Tryz.prog 179 = some 5 := by kernel_rfl
attribute [go_sem] Tryz.underlying179
@[go_sem] theorem ty182_size : tySize Tryz.prog 182 = some 1 := by kernel_rfl
@[go_sem] theorem ty182_agg : tyAgg Tryz.prog 182 = some false := by kernel_rfl
@[go_sem] theorem ty182_bytes : tyBytes Tryz.prog 182 = some 24 := by kernel_rfl
@[go_sem] theorem ty182_z : tyZ Tryz.prog 182 = some [.v (.slice none 0 0)] := by kernel_rfl
@[go_sem] theorem ty182_elem : tyElem Tryz.prog 182 = some 248 := by kernel_rfl
attribute [go_sem] Tryz.underlying182
@[go_sem] theorem ty183_size : tySize Tryz.prog 183 = some 2 := by kernel_rfl
@[go_sem] theorem ty183_agg : tyAgg Tryz.prog 183 = some true := by kernel_rfl
@[go_sem] theorem ty183_bytes : tyBytes Tryz.prog 183 = some 32 := by kernel_rfl
@[go_sem] theorem ty183_z : tyZ Tryz.prog 183 = some [.v (.int .i64 0), .v (.slice none 0 0)] := by kernel_rfl
@[go_sem] theorem ty183_fok : fieldsOk Tryz.prog 183 = true := by kernel_rfl
@[go_sem] theorem ty183_f0 : tyField Tryz.prog 183 0 = some (0, 3) := by kernel_rfl
@[go_sem] theorem ty183_f1 : tyField Tryz.prog 183 1 = some (1, 182) := by kernel_rfl
attribute [go_sem] Tryz.underlying183
@[go_sem] theorem ty184_size : tySize Tryz.prog 184 = some 2 := by kernel_rfl
@[go_sem] theorem ty184_agg : tyAgg Tryz.prog 184 = some true := by kernel_rfl
@[go_sem] theorem ty184_bytes : tyBytes Tryz.prog 184 = some 32 := by kernel_rfl
@[go_sem] theorem ty184_z : tyZ Tryz.prog 184 = some [.v (.int .i64 0), .v (.slice none 0 0)] := by kernel_rfl
@[go_sem] theorem ty184_fok : fieldsOk Tryz.prog 184 = true := by kernel_rfl
@[go_sem] theorem ty184_f0 : tyField Tryz.prog 184 0 = some (0, 3) := by kernel_rfl
@[go_sem] theorem ty184_f1 : tyField Tryz.prog 184 1 = some (1, 182) := by kernel_rfl
attribute [go_sem] Tryz.underlying184
@[go_sem] theorem ty185_size : tySize Tryz.prog 185 = some 5 := by kernel_rfl
@[go_sem] theorem ty185_agg : tyAgg Tryz.prog 185 = some true := by kernel_rfl
@[go_sem] theorem ty185_bytes : tyBytes Tryz.prog 185 = some 72 := by kernel_rfl
@[go_sem] theorem ty185_z : tyZ Tryz.prog 185 = some [.v (.int .i64 0), .v (.int .i64 0), .v (.int .i64 0), .v (.slice none 0 0), .v (.slice none 0 0)] := by kernel_rfl
@[go_sem] theorem ty185_fok : fieldsOk Tryz.prog 185 = true := by kernel_rfl
@[go_sem] theorem ty185_f0 : tyField Tryz.prog 185 0 = some (0, 3) := by kernel_rfl
@[go_sem] theorem ty185_f1 : tyField Tryz.prog 185 1 = some (1, 3) := by kernel_rfl
@[go_sem] theorem ty185_f2 : tyField Tryz.prog 185 2 = some (2, 184) := by kernel_rfl
@[go_sem] theorem ty185_f3 : tyField Tryz.prog 185 3 = some (4, 179) := by kernel_rfl
attribute [go_sem] Tryz.underlying185
@[go_sem] theorem ty186_size : tySize Tryz.prog 186 = some 5 := by kernel_rfl
@[go_sem] theorem ty186_agg : tyAgg Tryz.prog 186 = some true := by kernel_rfl
@[go_sem] theorem ty186_bytes : tyBytes Tryz.prog 186 = some 72 := by kernel_rfl
@[go_sem] theorem ty186_z : tyZ Tryz.prog 186 = some [.v (.int .i64 0), .v (.int .i64 0), .v (.int .i64 0), .v (.slice none 0 0), .v (.slice none 0 0)] := by kernel_rfl
@[go_sem] theorem ty186_fok : fieldsOk Tryz.prog 186 = true := by kernel_rfl
@[go_sem] theorem ty186_f0 : tyField Tryz.prog 186 0 = some (0, 3) := by kernel_rfl
@[go_sem] theorem ty186_f1 : tyField Tryz.prog 186 1 = some (1, 3) := by kernel_rfl
@[go_sem] theorem ty186_f2 : tyField Tryz.prog 186 2 = some (2, 184) := by kernel_rfl
@[go_sem] theorem ty186_f3 : tyField Tryz.prog 186 3 = some (4, 179) := by kernel_rfl
attribute [go_sem] Tryz.underlying186
@[go_sem] theorem ty188_size : tySize Tryz.prog 188 = some 25 := by kernel_rfl
@[go_sem] theorem ty188_agg : tyAgg Tryz.prog 188 = some true := by kernel_rfl
@[go_sem] theorem ty188_bytes : tyBytes Tryz.prog 188 = some 288 := by kernel_rfl
@[go_sem] theorem ty188_z : tyZ Tryz.prog 188 = some [.v (.int .i64 0), .v (.int .i64 0), .v (.int .i64 0), .v (.slice none 0 0), .v (.int .i64 0), .v (.int .i64 0), .v (.int .i64 0), .v (.int .i64 0), .v (.int .i64 0), .v (.int .i64 0), .v (.int .i64 0), .v (.string ByteArray.empty), .v (.slice none 0 0), .v (.int .i64 0), .v (.slice none 0 0), .v (.int .i64 0), .v (.int .i64 0), .v (.slice none 0 0), .v (.int .i64 0), .v (.int .i64 0), .v (.int .i64 0), .v (.int .i64 0), .v (.int .i64 0), .v (.bool false), .v (.slice none 0 0)] := by kernel_rfl
@[go_sem] theorem ty188_fok : fieldsOk Tryz.prog 188 = true := by kernel_rfl
@[go_sem] theorem ty188_f0 : tyField Tryz.prog 188 0 = some (0, 3) := by kernel_rfl
@[go_sem] theorem ty188_f1 : tyField Tryz.prog 188 1 = some (1, 3) := by kernel_rfl
@[go_sem] theorem ty188_f2 : tyField Tryz.prog 188 2 = some (2, 3) := by kernel_rfl
@[go_sem] theorem ty188_f3 : tyField Tryz.prog 188 3 = some (3, 26) := by kernel_rfl
@[go_sem] theorem ty188_f4 : tyField Tryz.prog 188 4 = some (4, 3) := by kernel_rfl
@[go_sem] theorem ty188_f5 : tyField Tryz.prog 188 5 = some (5, 33) := by kernel_rfl
@[go_sem] theorem ty188_f6 : tyField Tryz.prog 188 6 = some (15, 3) := by kernel_rfl
@[go_sem] theorem ty188_f7 : tyField Tryz.prog 188 7 = some (16, 3) := by kernel_rfl
@[go_sem] theorem ty188_f8 : tyField Tryz.prog 188 8 = some (17, 74) := by kernel_rfl
@[go_sem] theorem ty188_f9 : tyField Tryz.prog 188 9 = some (18, 3) := by kernel_rfl
@[go_sem] theorem ty188_f10 : tyField Tryz.prog 188 10 = some (19, 3) := by kernel_rfl
@[go_sem] theorem ty188_f11 : tyField Tryz.prog 188 11 = some (20, 3) := by kernel_rfl
@[go_sem] theorem ty188_f12 : tyField Tryz.prog 188 12 = some (21, 3) := by kernel_rfl
@[go_sem] theorem ty188_f13 : tyField Tryz.prog 188 13 = some (22, 3) := by kernel_rfl
@[go_sem] theorem ty188_f14 : tyField Tryz.prog 188 14 = some (23, 4) := by kernel_rfl
@[go_sem] theorem ty188_f15 : tyField Tryz.prog 188 15 = some (24, 23) := by kernel_rfl
attribute [go_sem] Tryz.underlying188
@[go_sem] theorem ty189_size : tySize Tryz.prog 189 = some 25 := by kernel_rfl
@[go_sem] theorem ty189_agg : tyAgg Tryz.prog 189 = some true := by kernel_rfl
@[go_sem] theorem ty189_bytes : tyBytes Tryz.prog 189 = some 288 := by kernel_rfl
@[go_sem] theorem ty189_z : tyZ Tryz.prog 189 = some [.v (.int .i64 0), .v (.int .i64 0), .v (.int .i64 0), .v (.slice none 0 0), .v (.int .i64 0), .v (.int .i64 0), .v (.int .i64 0), .v (.int .i64 0), .v (.int .i64 0), .v (.int .i64 0), .v (.int .i64 0), .v (.string ByteArray.empty), .v (.slice none 0 0), .v (.int .i64 0), .v (.slice none 0 0), .v (.int .i64 0), .v (.int .i64 0), .v (.slice none 0 0), .v (.int .i64 0), .v (.int .i64 0), .v (.int .i64 0), .v (.int .i64 0), .v (.int .i64 0), .v (.bool false), .v (.slice none 0 0)] := by kernel_rfl
@[go_sem] theorem ty189_fok : fieldsOk Tryz.prog 189 = true := by kernel_rfl
@[go_sem] theorem ty189_f0 : tyField Tryz.prog 189 0 = some (0, 3) := by kernel_rfl
@[go_sem] theorem ty189_f1 : tyField Tryz.prog 189 1 = some (1, 3) := by kernel_rfl
@[go_sem] theorem ty189_f2 : tyField Tryz.prog 189 2 = some (2, 3) := by kernel_rfl
@[go_sem] theorem ty189_f3 : tyField Tryz.prog 189 3 = some (3, 26) := by kernel_rfl
@[go_sem] theorem ty189_f4 : tyField Tryz.prog 189 4 = some (4, 3) := by kernel_rfl
@[go_sem] theorem ty189_f5 : tyField Tryz.prog 189 5 = some (5, 33) := by kernel_rfl
@[go_sem] theorem ty189_f6 : tyField Tryz.prog 189 6 = some (15, 3) := by kernel_rfl
@[go_sem] theorem ty189_f7 : tyField Tryz.prog 189 7 = some (16, 3) := by kernel_rfl
@[go_sem] theorem ty189_f8 : tyField Tryz.prog 189 8 = some (17, 74) := by kernel_rfl
@[go_sem] theorem ty189_f9 : tyField Tryz.prog 189 9 = some (18, 3) := by kernel_rfl
@[go_sem] theorem ty189_f10 : tyField Tryz.prog 189 10 = some (19, 3) := by kernel_rfl
@[go_sem] theorem ty189_f11 : tyField Tryz.prog 189 11 = some (20, 3) := by kernel_rfl
@[go_sem] theorem ty189_f12 : tyField Tryz.prog 189 12 = some (21, 3) := by kernel_rfl
@[go_sem] theorem ty189_f13 : tyField Tryz.prog 189 13 = some (22, 3) := by kernel_rfl
@[go_sem] theorem ty189_f14 : tyField Tryz.prog 189 14 = some (23, 4) := by kernel_rfl
@[go_sem] theorem ty189_f15 : tyField Tryz.prog 189 15 = some (24, 23) := by kernel_rfl
attribute [go_sem] Tryz.underlying189
@[go_sem] theorem ty192_size : tySize Tryz.prog 192 = some 1 := by kernel_rfl
@[go_sem] theorem ty192_agg : tyAgg Tryz.prog 192 = some false := by kernel_rfl
@[go_sem] theorem ty192_bytes : tyBytes Tryz.prog 192 = some 24 := by kernel_rfl
@[go_sem] theorem ty192_z : tyZ Tryz.prog 192 = some [.v (.slice none 0 0)] := by kernel_rfl
@[go_sem] theorem ty192_elem : tyElem Tryz.prog 192 = some 236 := by kernel_rfl
attribute [go_sem] Tryz.underlying192
@[go_sem] theorem ty193_size : tySize Tryz.prog 193 = some 2 := by kernel_rfl
@[go_sem] theorem ty193_agg : tyAgg Tryz.prog 193 = some true := by kernel_rfl
@[go_sem] theorem ty193_bytes : tyBytes Tryz.prog 193 = some 32 := by kernel_rfl
@[go_sem] theorem ty193_z : tyZ Tryz.prog 193 = some [.v (.int .i64 0), .v (.slice none 0 0)] := by kernel_rfl
@[go_sem] theorem ty193_fok : fieldsOk Tryz.prog 193 = true := by kernel_rfl
@[go_sem] theorem ty193_f0 : tyField Tryz.prog 193 0 = some (0, 3) := by kernel_rfl
@[go_sem] theorem ty193_f1 : tyField Tryz.prog 193 1 = some (1, 192) := by kernel_rfl
attribute [go_sem] Tryz.underlying193
@[go_sem] theorem ty194_size : tySize Tryz.prog 194 = some 2 := by kernel_rfl
@[go_sem] theorem ty194_agg : tyAgg Tryz.prog 194 = some true := by kernel_rfl
@[go_sem] theorem ty194_bytes : tyBytes Tryz.prog 194 = some 32 := by kernel_rfl
@[go_sem] theorem ty194_z : tyZ Tryz.prog 194 = some [.v (.int .i64 0), .v (.slice none 0 0)] := by kernel_rfl
@[go_sem] theorem ty194_fok : fieldsOk Tryz.prog 194 = true := by kernel_rfl
@[go_sem] theorem ty194_f0 : tyField Tryz.prog 194 0 = some (0, 3) := by kernel_rfl
@[go_sem] theorem ty194_f1 : tyField Tryz.prog 194 1 = some (1, 192) := by kernel_rfl
attribute [go_sem] Tryz.underlying194
@[go_sem] theorem ty195_size : tySize Tryz.prog 195 = some 5 := by kernel_rfl
@[go_sem] theorem ty195_agg : tyAgg Tryz.prog 195 = some true := by kernel_rfl
@[go_sem] theorem ty195_bytes : tyBytes Tryz.prog 195 = some 72 := by kernel_rfl
@[go_sem] theorem ty195_z : tyZ Tryz.prog 195 = some [.v (.int .i64 0), .v (.int .i64 0), .v (.int .i64 0), .v (.slice none 0 0), .v (.slice none 0 0)] := by kernel_rfl
@[go_sem] theorem ty195_fok : fieldsOk Tryz.prog 195 = true := by kernel_rfl
@[go_sem] theorem ty195_f0 : tyField Tryz.prog 195 0 = some (0, 3) := by kernel_rfl
@[go_sem] theorem ty195_f1 : tyField Tryz.prog 195 1 = some (1, 3) := by kernel_rfl
@[go_sem] theorem ty195_f2 : tyField Tryz.prog 195 2 = some (2, 194) := by kernel_rfl
@[go_sem] theorem ty195_f3 : tyField Tryz.prog 195 3 = some (4, 179) := by kernel_rfl
attribute [go_sem] Tryz.underlying195
@[go_sem] theorem ty196_size : tySize Tryz.prog 196 = some 5 := by kernel_rfl
@[go_sem] theorem ty196_agg : tyAgg Tryz.prog 196 = some true := by kernel_rfl
@[go_sem] theorem ty196_bytes : tyBytes Tryz.prog 196 = some 72 := by kernel_rfl
@[go_sem] theorem ty196_z : tyZ Tryz.prog 196 = some [.v (.int .i64 0), .v (.int .i64 0), .v (.int .i64 0), .v (.slice none 0 0), .v (.slice none 0 0)] := by kernel_rfl
@[go_sem] theorem ty196_fok : fieldsOk Tryz.prog 196 = true := by kernel_rfl
@[go_sem] theorem ty196_f0 : tyField Tryz.prog 196 0 = some (0, 3) := by kernel_rfl
@[go_sem] theorem ty196_f1 : tyField Tryz.prog 196 1 = some (1, 3) := by kernel_rfl
@[go_sem] theorem ty196_f2 : tyField Tryz.prog 196 2 = some (2, 194) := by kernel_rfl
@[go_sem] theorem ty196_f3 : tyField Tryz.prog 196 3 = some (4, 179) := by kernel_rfl
attribute [go_sem] Tryz.underlying196
@[go_sem] theorem ty198_size : tySize Tryz.prog 198 = some 3 := by kernel_rfl
@[go_sem] theorem ty198_agg : tyAgg Tryz.prog 198 = some true := by kernel_rfl
@[go_sem] theorem ty198_bytes : tyBytes Tryz.prog 198 = some 24 := by kernel_rfl
@[go_sem] theorem ty198_z : tyZ Tryz.prog 198 = some [.v (.int .i64 0), .v (.int .i64 0), .v (.int .i64 0)] := by kernel_rfl
@[go_sem] theorem ty198_fok : fieldsOk Tryz.prog 198 = true := by kernel_rfl
@[go_sem] theorem ty198_f0 : tyField Tryz.prog 198 0 = some (0, 3) := by kernel_rfl
@[go_sem] theorem ty198_f1 : tyField Tryz.prog 198 1 = some (1, 3) := by kernel_rfl
@[go_sem] theorem ty198_f2 : tyField Tryz.prog 198 2 = some (2, 3) := by kernel_rfl
attribute [go_sem] Tryz.underlying198
@[go_sem] theorem ty199_size : tySize Tryz.prog 199 = some 3 := by kernel_rfl
@[go_sem] theorem ty199_agg : tyAgg Tryz.prog 199 = some true := by kernel_rfl
@[go_sem] theorem ty199_bytes : tyBytes Tryz.prog 199 = some 24 := by kernel_rfl
@[go_sem] theorem ty199_z : tyZ Tryz.prog 199 = some [.v (.int .i64 0), .v (.int .i64 0), .v (.int .i64 0)] := by kernel_rfl
@[go_sem] theorem ty199_fok : fieldsOk Tryz.prog 199 = true := by kernel_rfl
@[go_sem] theorem ty199_eqs : eqShape Tryz.prog 199 = some [.int .i64, .int .i64, .int .i64] := by kernel_rfl
@[go_sem] theorem ty199_f0 : tyField Tryz.prog 199 0 = some (0, 3) := by kernel_rfl
@[go_sem] theorem ty199_f1 : tyField Tryz.prog 199 1 = some (1, 3) := by kernel_rfl
@[go_sem] theorem ty199_f2 : tyField Tryz.prog 199 2 = some (2, 3) := by kernel_rfl
attribute [go_sem] Tryz.underlying199
@[go_sem] theorem ty201_size : tySize Tryz.prog 201 = some 3 := by kernel_rfl
@[go_sem] theorem ty201_agg : tyAgg Tryz.prog 201 = some true := by kernel_rfl
@[go_sem] theorem ty201_bytes : tyBytes Tryz.prog 201 = some 24 := by kernel_rfl
@[go_sem] theorem ty201_z : tyZ Tryz.prog 201 = some [.v (.int .i64 0), .v (.int .i64 0), .v (.int .i64 0)] := by kernel_rfl
@[go_sem] theorem ty201_fok : fieldsOk Tryz.prog 201 = true := by kernel_rfl
@[go_sem] theorem ty201_f0 : tyField Tryz.prog 201 0 = some (0, 3) := by kernel_rfl
@[go_sem] theorem ty201_f1 : tyField Tryz.prog 201 1 = some (1, 3) := by kernel_rfl
@[go_sem] theorem ty201_f2 : tyField Tryz.prog 201 2 = some (2, 3) := by kernel_rfl
attribute [go_sem] Tryz.underlying201
@[go_sem] theorem ty202_size : tySize Tryz.prog 202 = some 25 := by kernel_rfl
@[go_sem] theorem ty202_agg : tyAgg Tryz.prog 202 = some true := by kernel_rfl
@[go_sem] theorem ty202_bytes : tyBytes Tryz.prog 202 = some 288 := by kernel_rfl
@[go_sem] theorem ty202_z : tyZ Tryz.prog 202 = some [.v (.int .i64 0), .v (.int .i64 0), .v (.int .i64 0), .v (.slice none 0 0), .v (.int .i64 0), .v (.int .i64 0), .v (.int .i64 0), .v (.int .i64 0), .v (.int .i64 0), .v (.int .i64 0), .v (.int .i64 0), .v (.string ByteArray.empty), .v (.slice none 0 0), .v (.int .i64 0), .v (.slice none 0 0), .v (.int .i64 0), .v (.int .i64 0), .v (.slice none 0 0), .v (.int .i64 0), .v (.int .i64 0), .v (.int .i64 0), .v (.int .i64 0), .v (.int .i64 0), .v (.bool false), .v (.slice none 0 0)] := by kernel_rfl
@[go_sem] theorem ty202_fok : fieldsOk Tryz.prog 202 = true := by kernel_rfl
@[go_sem] theorem ty202_f0 : tyField Tryz.prog 202 0 = some (0, 3) := by kernel_rfl
@[go_sem] theorem ty202_f1 : tyField Tryz.prog 202 1 = some (1, 3) := by kernel_rfl
@[go_sem] theorem ty202_f2 : tyField Tryz.prog 202 2 = some (2, 3) := by kernel_rfl
@[go_sem] theorem ty202_f3 : tyField Tryz.prog 202 3 = some (3, 46) := by kernel_rfl
@[go_sem] theorem ty202_f4 : tyField Tryz.prog 202 4 = some (4, 3) := by kernel_rfl
@[go_sem] theorem ty202_f5 : tyField Tryz.prog 202 5 = some (5, 52) := by kernel_rfl
@[go_sem] theorem ty202_f6 : tyField Tryz.prog 202 6 = some (15, 3) := by kernel_rfl
@[go_sem] theorem ty202_f7 : tyField Tryz.prog 202 7 = some (16, 3) := by kernel_rfl
@[go_sem] theorem ty202_f8 : tyField Tryz.prog 202 8 = some (17, 85) := by kernel_rfl
@[go_sem] theorem ty202_f9 : tyField Tryz.prog 202 9 = some (18, 3) := by kernel_rfl
@[go_sem] theorem ty202_f10 : tyField Tryz.prog 202 10 = some (19, 3) := by kernel_rfl
@[go_sem] theorem ty202_f11 : tyField Tryz.prog 202 11 = some (20, 3) := by kernel_rfl
@[go_sem] theorem ty202_f12 : tyField Tryz.prog 202 12 = some (21, 3) := by kernel_rfl
@[go_sem] theorem ty202_f13 : tyField Tryz.prog 202 13 = some (22, 3) := by kernel_rfl
@[go_sem] theorem ty202_f14 : tyField Tryz.prog 202 14 = some (23, 4) := by kernel_rfl
@[go_sem] theorem ty202_f15 : tyField Tryz.prog 202 15 = some (24, 40) := by kernel_rfl
attribute [go_sem] Tryz.underlying202
@[go_sem] theorem ty203_size : tySize Tryz.prog 203 = some 25 := by kernel_rfl
@[go_sem] theorem ty203_agg : tyAgg Tryz.prog 203 = some true := by kernel_rfl
@[go_sem] theorem ty203_bytes : tyBytes Tryz.prog 203 = some 288 := by kernel_rfl
@[go_sem] theorem ty203_z : tyZ Tryz.prog 203 = some [.v (.int .i64 0), .v (.int .i64 0), .v (.int .i64 0), .v (.slice none 0 0), .v (.int .i64 0), .v (.int .i64 0), .v (.int .i64 0), .v (.int .i64 0), .v (.int .i64 0), .v (.int .i64 0), .v (.int .i64 0), .v (.string ByteArray.empty), .v (.slice none 0 0), .v (.int .i64 0), .v (.slice none 0 0), .v (.int .i64 0), .v (.int .i64 0), .v (.slice none 0 0), .v (.int .i64 0), .v (.int .i64 0), .v (.int .i64 0), .v (.int .i64 0), .v (.int .i64 0), .v (.bool false), .v (.slice none 0 0)] := by kernel_rfl
@[go_sem] theorem ty203_fok : fieldsOk Tryz.prog 203 = true := by kernel_rfl
@[go_sem] theorem ty203_f0 : tyField Tryz.prog 203 0 = some (0, 3) := by kernel_rfl
@[go_sem] theorem ty203_f1 : tyField Tryz.prog 203 1 = some (1, 3) := by kernel_rfl
@[go_sem] theorem ty203_f2 : tyField Tryz.prog 203 2 = some (2, 3) := by kernel_rfl
@[go_sem] theorem ty203_f3 : tyField Tryz.prog 203 3 = some (3, 46) := by kernel_rfl
@[go_sem] theorem ty203_f4 : tyField Tryz.prog 203 4 = some (4, 3) := by kernel_rfl
@[go_sem] theorem ty203_f5 : tyField Tryz.prog 203 5 = some (5, 52) := by kernel_rfl
@[go_sem] theorem ty203_f6 : tyField Tryz.prog 203 6 = some (15, 3) := by kernel_rfl
@[go_sem] theorem ty203_f7 : tyField Tryz.prog 203 7 = some (16, 3) := by kernel_rfl
@[go_sem] theorem ty203_f8 : tyField Tryz.prog 203 8 = some (17, 85) := by kernel_rfl
@[go_sem] theorem ty203_f9 : tyField Tryz.prog 203 9 = some (18, 3) := by kernel_rfl
@[go_sem] theorem ty203_f10 : tyField Tryz.prog 203 10 = some (19, 3) := by kernel_rfl
@[go_sem] theorem ty203_f11 : tyField Tryz.prog 203 11 = some (20, 3) := by kernel_rfl
@[go_sem] theorem ty203_f12 : tyField Tryz.prog 203 12 = some (21, 3) := by kernel_rfl
@[go_sem] theorem ty203_f13 : tyField Tryz.prog 203 13 = some (22, 3) := by kernel_rfl
@[go_sem] theorem ty203_f14 : tyField Tryz.prog 203 14 = some (23, 4) := by kernel_rfl
@[go_sem] theorem ty203_f15 : tyField Tryz.prog 203 15 = some (24, 40) := by kernel_rfl
attribute [go_sem] Tryz.underlying203
@[go_sem] theorem ty225_size : tySize Tryz.prog 225 = some 5 := by kernel_rfl
@[go_sem] theorem ty225_agg : tyAgg Tryz.prog 225 = some true := by kernel_rfl
@[go_sem] theorem ty225_bytes : tyBytes Tryz.prog 225 = some 40 := by kernel_rfl
@[go_sem] theorem ty225_z : tyZ Tryz.prog 225 = some [.v (.int .i64 0), .v (.int .i64 0), .v (.int .i64 0), .v (.int .i64 0), .v (.int .i64 0)] := by kernel_rfl
@[go_sem] theorem ty225_fok : fieldsOk Tryz.prog 225 = true := by kernel_rfl
@[go_sem] theorem ty225_f0 : tyField Tryz.prog 225 0 = some (0, 3) := by kernel_rfl
@[go_sem] theorem ty225_f1 : tyField Tryz.prog 225 1 = some (1, 3) := by kernel_rfl
@[go_sem] theorem ty225_f2 : tyField Tryz.prog 225 2 = some (2, 3) := by kernel_rfl
@[go_sem] theorem ty225_f3 : tyField Tryz.prog 225 3 = some (3, 3) := by kernel_rfl
@[go_sem] theorem ty225_f4 : tyField Tryz.prog 225 4 = some (4, 3) := by kernel_rfl
attribute [go_sem] Tryz.underlying225
@[go_sem] theorem ty226_size : tySize Tryz.prog 226 = some 5 := by kernel_rfl
@[go_sem] theorem ty226_agg : tyAgg Tryz.prog 226 = some true := by kernel_rfl
@[go_sem] theorem ty226_bytes : tyBytes Tryz.prog 226 = some 40 := by kernel_rfl
@[go_sem] theorem ty226_z : tyZ Tryz.prog 226 = some [.v (.int .i64 0), .v (.int .i64 0), .v (.int .i64 0), .v (.int .i64 0), .v (.int .i64 0)] := by kernel_rfl
@[go_sem] theorem ty226_fok : fieldsOk Tryz.prog 226 = true := by kernel_rfl
@[go_sem] theorem ty226_eqs : eqShape Tryz.prog 226 = some [.int .i64, .int .i64, .int .i64, .int .i64, .int .i64] := by kernel_rfl
@[go_sem] theorem ty226_f0 : tyField Tryz.prog 226 0 = some (0, 3) := by kernel_rfl
@[go_sem] theorem ty226_f1 : tyField Tryz.prog 226 1 = some (1, 3) := by kernel_rfl
@[go_sem] theorem ty226_f2 : tyField Tryz.prog 226 2 = some (2, 3) := by kernel_rfl
@[go_sem] theorem ty226_f3 : tyField Tryz.prog 226 3 = some (3, 3) := by kernel_rfl
@[go_sem] theorem ty226_f4 : tyField Tryz.prog 226 4 = some (4, 3) := by kernel_rfl
attribute [go_sem] Tryz.underlying226
@[go_sem] theorem ty228_size : tySize Tryz.prog 228 = some 5 := by kernel_rfl
@[go_sem] theorem ty228_agg : tyAgg Tryz.prog 228 = some true := by kernel_rfl
@[go_sem] theorem ty228_bytes : tyBytes Tryz.prog 228 = some 40 := by kernel_rfl
@[go_sem] theorem ty228_z : tyZ Tryz.prog 228 = some [.v (.int .i64 0), .v (.int .i64 0), .v (.int .i64 0), .v (.int .i64 0), .v (.int .i64 0)] := by kernel_rfl
@[go_sem] theorem ty228_fok : fieldsOk Tryz.prog 228 = true := by kernel_rfl
@[go_sem] theorem ty228_f0 : tyField Tryz.prog 228 0 = some (0, 3) := by kernel_rfl
@[go_sem] theorem ty228_f1 : tyField Tryz.prog 228 1 = some (1, 3) := by kernel_rfl
@[go_sem] theorem ty228_f2 : tyField Tryz.prog 228 2 = some (2, 3) := by kernel_rfl
@[go_sem] theorem ty228_f3 : tyField Tryz.prog 228 3 = some (3, 3) := by kernel_rfl
@[go_sem] theorem ty228_f4 : tyField Tryz.prog 228 4 = some (4, 3) := by kernel_rfl
attribute [go_sem] Tryz.underlying228
@[go_sem] theorem ty235_size : tySize Tryz.prog 235 = some 2 := by kernel_rfl
@[go_sem] theorem ty235_agg : tyAgg Tryz.prog 235 = some true := by kernel_rfl
@[go_sem] theorem ty235_bytes : tyBytes Tryz.prog 235 = some 32 := by kernel_rfl
@[go_sem] theorem ty235_z : tyZ Tryz.prog 235 = some [.v (.int .i64 0), .v (.slice none 0 0)] := by kernel_rfl
@[go_sem] theorem ty235_fok : fieldsOk Tryz.prog 235 = true := by kernel_rfl
@[go_sem] theorem ty235_f0 : tyField Tryz.prog 235 0 = some (0, 3) := by kernel_rfl
@[go_sem] theorem ty235_f1 : tyField Tryz.prog 235 1 = some (1, 46) := by kernel_rfl
attribute [go_sem] Tryz.underlying235
@[go_sem] theorem ty236_size : tySize Tryz.prog 236 = some 2 := by kernel_rfl
@[go_sem] theorem ty236_agg : tyAgg Tryz.prog 236 = some true := by kernel_rfl
@[go_sem] theorem ty236_bytes : tyBytes Tryz.prog 236 = some 32 := by kernel_rfl
@[go_sem] theorem ty236_z : tyZ Tryz.prog 236 = some [.v (.int .i64 0), .v (.slice none 0 0)] := by kernel_rfl
@[go_sem] theorem ty236_fok : fieldsOk Tryz.prog 236 = true := by kernel_rfl
@[go_sem] theorem ty236_f0 : tyField Tryz.prog 236 0 = some (0, 3) := by kernel_rfl
@[go_sem] theorem ty236_f1 : tyField Tryz.prog 236 1 = some (1, 46) := by kernel_rfl
attribute [go_sem] Tryz.underlying236
@[go_sem] theorem ty247_size : tySize Tryz.prog 247 = some 2 := by kernel_rfl
@[go_sem] theorem ty247_agg : tyAgg Tryz.prog 247 = some true := by kernel_rfl
@[go_sem] theorem ty247_bytes : tyBytes Tryz.prog 247 = some 32 := by kernel_rfl
@[go_sem] theorem ty247_z : tyZ Tryz.prog 247 = some [.v (.int .i64 0), .v (.slice none 0 0)] := by kernel_rfl
@[go_sem] theorem ty247_fok : fieldsOk Tryz.prog 247 = true := by kernel_rfl
@[go_sem] theorem ty247_f0 : tyField Tryz.prog 247 0 = some (0, 3) := by kernel_rfl
@[go_sem] theorem ty247_f1 : tyField Tryz.prog 247 1 = some (1, 26) := by kernel_rfl
attribute [go_sem] Tryz.underlying247
@[go_sem] theorem ty248_size : tySize Tryz.prog 248 = some 2 := by kernel_rfl
@[go_sem] theorem ty248_agg : tyAgg Tryz.prog 248 = some true := by kernel_rfl
@[go_sem] theorem ty248_bytes : tyBytes Tryz.prog 248 = some 32 := by kernel_rfl
@[go_sem] theorem ty248_z : tyZ Tryz.prog 248 = some [.v (.int .i64 0), .v (.slice none 0 0)] := by kernel_rfl
@[go_sem] theorem ty248_fok : fieldsOk Tryz.prog 248 = true := by kernel_rfl
@[go_sem] theorem ty248_f0 : tyField Tryz.prog 248 0 = some (0, 3) := by kernel_rfl
@[go_sem] theorem ty248_f1 : tyField Tryz.prog 248 1 = some (1, 26) := by kernel_rfl
attribute [go_sem] Tryz.underlying248
@[go_sem] theorem ty250_size : tySize Tryz.prog 250 = some 1 := by kernel_rfl
@[go_sem] theorem ty250_agg : tyAgg Tryz.prog 250 = some false := by kernel_rfl
@[go_sem] theorem ty250_bytes : tyBytes Tryz.prog 250 = some 8 := by kernel_rfl
@[go_sem] theorem ty250_z : tyZ Tryz.prog 250 = some [.v (.int .u64 0)] := by kernel_rfl
attribute [go_sem] Tryz.underlying250
@[go_sem] theorem ty253_size : tySize Tryz.prog 253 = some 4 := by kernel_rfl
@[go_sem] theorem ty253_agg : tyAgg Tryz.prog 253 = some true := by kernel_rfl
@[go_sem] theorem ty253_bytes : tyBytes Tryz.prog 253 = some 40 := by kernel_rfl
@[go_sem] theorem ty253_z : tyZ Tryz.prog 253 = some [.v (.pointer none), .v (.pointer none), .v (.pointer none), .v (.string ByteArray.empty)] := by kernel_rfl
@[go_sem] theorem ty253_fok : fieldsOk Tryz.prog 253 = true := by kernel_rfl
@[go_sem] theorem ty253_f0 : tyField Tryz.prog 253 0 = some (0, 17) := by kernel_rfl
@[go_sem] theorem ty253_f1 : tyField Tryz.prog 253 1 = some (1, 17) := by kernel_rfl
@[go_sem] theorem ty253_f2 : tyField Tryz.prog 253 2 = some (2, 17) := by kernel_rfl
@[go_sem] theorem ty253_f3 : tyField Tryz.prog 253 3 = some (3, 9) := by kernel_rfl
attribute [go_sem] Tryz.underlying253
@[go_sem] theorem ty255_size : tySize Tryz.prog 255 = some 0 := by kernel_rfl
@[go_sem] theorem ty255_agg : tyAgg Tryz.prog 255 = some true := by kernel_rfl
@[go_sem] theorem ty255_bytes : tyBytes Tryz.prog 255 = some 0 := by kernel_rfl
@[go_sem] theorem ty255_z : tyZ Tryz.prog 255 = some [] := by kernel_rfl
attribute [go_sem] Tryz.underlying255
@[go_sem] theorem ty256_size : tySize Tryz.prog 256 = some 0 := by kernel_rfl
@[go_sem] theorem ty256_agg : tyAgg Tryz.prog 256 = some true := by kernel_rfl
@[go_sem] theorem ty256_bytes : tyBytes Tryz.prog 256 = some 0 := by kernel_rfl
@[go_sem] theorem ty256_z : tyZ Tryz.prog 256 = some [] := by kernel_rfl
@[go_sem] theorem ty256_fok : fieldsOk Tryz.prog 256 = true := by kernel_rfl
@[go_sem] theorem ty256_f0 : tyField Tryz.prog 256 0 = some (0, 255) := by kernel_rfl
attribute [go_sem] Tryz.underlying256
@[go_sem] theorem ty259_size : tySize Tryz.prog 259 = some 1 := by kernel_rfl
@[go_sem] theorem ty259_agg : tyAgg Tryz.prog 259 = some false := by kernel_rfl
@[go_sem] theorem ty259_bytes : tyBytes Tryz.prog 259 = some 4 := by kernel_rfl
@[go_sem] theorem ty259_z : tyZ Tryz.prog 259 = some [.v (.int .u32 0)] := by kernel_rfl
attribute [go_sem] Tryz.underlying259
@[go_sem] theorem ty266_size : tySize Tryz.prog 266 = some 11 := by kernel_rfl
@[go_sem] theorem ty266_agg : tyAgg Tryz.prog 266 = some true := by kernel_rfl
@[go_sem] theorem ty266_bytes : tyBytes Tryz.prog 266 = some 48 := by kernel_rfl
@[go_sem] theorem ty266_z : tyZ Tryz.prog 266 = some [.v (.int .u64 0), .v (.int .u64 0), .v (.int .u32 0), .v (.int .u8 0), .v (.int .u8 0), .v (.int .u8 0), .v (.int .u8 0), .v (.nilFunc), .v (.pointer none), .v (.int .i32 0), .v (.int .i32 0)] := by kernel_rfl
@[go_sem] theorem ty266_fok : fieldsOk Tryz.prog 266 = true := by kernel_rfl
@[go_sem] theorem ty266_f0 : tyField Tryz.prog 266 0 = some (0, 12) := by kernel_rfl
@[go_sem] theorem ty266_f1 : tyField Tryz.prog 266 1 = some (1, 12) := by kernel_rfl
@[go_sem] theorem ty266_f2 : tyField Tryz.prog 266 2 = some (2, 259) := by kernel_rfl
@[go_sem] theorem ty266_f3 : tyField Tryz.prog 266 3 = some (3, 260) := by kernel_rfl
@[go_sem] theorem ty266_f4 : tyField Tryz.prog 266 4 = some (4, 5) := by kernel_rfl
@[go_sem] theorem ty266_f5 : tyField Tryz.prog 266 5 = some (5, 5) := by kernel_rfl
@[go_sem] theorem ty266_f6 : tyField Tryz.prog 266 6 = some (6, 261) := by kernel_rfl
@[go_sem] theorem ty266_f7 : tyField Tryz.prog 266 7 = some (7, 262) := by kernel_rfl
@[go_sem] theorem ty266_f8 : tyField Tryz.prog 266 8 = some (8, 263) := by kernel_rfl
@[go_sem] theorem ty266_f9 : tyField Tryz.prog 266 9 = some (9, 264) := by kernel_rfl
@[go_sem] theorem ty266_f10 : tyField Tryz.prog 266 10 = some (10, 265) := by kernel_rfl
attribute [go_sem] Tryz.underlying266
@[go_sem] theorem ty268_size : tySize Tryz.prog 268 = some 1 := by kernel_rfl
@[go_sem] theorem ty268_agg : tyAgg Tryz.prog 268 = some false := by kernel_rfl
@[go_sem] theorem ty268_bytes : tyBytes Tryz.prog 268 = some 8 := by kernel_rfl
@[go_sem] theorem ty268_z : tyZ Tryz.prog 268 = some [.v (.pointer none)] := by kernel_rfl
attribute [go_sem] Tryz.underlying268
end Go.Proofs.YtepjgnlinjlehaaGreat
