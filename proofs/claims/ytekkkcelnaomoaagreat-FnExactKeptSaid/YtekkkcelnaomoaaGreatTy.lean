/- Facts on the types of this seat, by program (gen_ty.py). -/
import Derived.Test.YtekkkcelnaomoaaGreatVmU
import Derived.Test.YtekkkcelnaomoaaGreatRows
namespace Go.Proofs.YtekkkcelnaomoaaGreat
set_option linter.unusedSimpArgs false
set_option linter.unusedVariables false
open Go.Vm

theorem mixed : Tryz.prog.follows .mixedOrders = true := by kernel_rfl
@[go_sem] theorem ty2_size : tySize Tryz.prog 2 = some 1 := by kernel_rfl
@[go_sem] theorem ty2_agg : tyAgg Tryz.prog 2 = some false := by kernel_rfl
@[go_sem] theorem ty2_bytes : tyBytes Tryz.prog 2 = some 8 := by kernel_rfl
@[go_sem] theorem ty2_z : tyZ Tryz.prog 2 = some [.v (.int .i64 0)] := by kernel_rfl
attribute [go_sem] Tryz.underlying2
@[go_sem] theorem ty3_size : tySize Tryz.prog 3 = some 1 := by kernel_rfl
@[go_sem] theorem ty3_agg : tyAgg Tryz.prog 3 = some false := by kernel_rfl
@[go_sem] theorem ty3_bytes : tyBytes Tryz.prog 3 = some 8 := by kernel_rfl
@[go_sem] theorem ty3_z : tyZ Tryz.prog 3 = some [.v (.int .i64 0)] := by kernel_rfl
attribute [go_sem] Tryz.underlying3
@[go_sem] theorem ty4_size : tySize Tryz.prog 4 = some 1 := by kernel_rfl
@[go_sem] theorem ty4_agg : tyAgg Tryz.prog 4 = some false := by kernel_rfl
@[go_sem] theorem ty4_bytes : tyBytes Tryz.prog 4 = some 1 := by kernel_rfl
@[go_sem] theorem ty4_z : tyZ Tryz.prog 4 = some [.v (.bool false)] := by kernel_rfl
attribute [go_sem] Tryz.underlying4
@[go_sem] theorem ty5_size : tySize Tryz.prog 5 = some 1 := by kernel_rfl
@[go_sem] theorem ty5_agg : tyAgg Tryz.prog 5 = some false := by kernel_rfl
@[go_sem] theorem ty5_bytes : tyBytes Tryz.prog 5 = some 1 := by kernel_rfl
@[go_sem] theorem ty5_z : tyZ Tryz.prog 5 = some [.v (.int .u8 0)] := by kernel_rfl
attribute [go_sem] Tryz.underlying5
@[go_sem] theorem ty7_size : tySize Tryz.prog 7 = some 4 := by kernel_rfl
@[go_sem] theorem ty7_agg : tyAgg Tryz.prog 7 = some true := by kernel_rfl
@[go_sem] theorem ty7_bytes : tyBytes Tryz.prog 7 = some 24 := by kernel_rfl
@[go_sem] theorem ty7_z : tyZ Tryz.prog 7 = some [.v (.int .i64 0), .v (.int .i64 0), .v (.bool false), .v (.int .u8 0)] := by kernel_rfl
@[go_sem] theorem ty7_fok : fieldsOk Tryz.prog 7 = true := by kernel_rfl
@[go_sem] theorem ty7_f0 : tyField Tryz.prog 7 0 = some (0, 2) := by kernel_rfl
@[go_sem] theorem ty7_f1 : tyField Tryz.prog 7 1 = some (1, 3) := by kernel_rfl
@[go_sem] theorem ty7_f2 : tyField Tryz.prog 7 2 = some (2, 4) := by kernel_rfl
@[go_sem] theorem ty7_f3 : tyField Tryz.prog 7 3 = some (3, 6) := by kernel_rfl
attribute [go_sem] Tryz.underlying7
@[go_sem] theorem ty9_size : tySize Tryz.prog 9 = some 1 := by kernel_rfl
@[go_sem] theorem ty9_agg : tyAgg Tryz.prog 9 = some false := by kernel_rfl
@[go_sem] theorem ty9_bytes : tyBytes Tryz.prog 9 = some 16 := by kernel_rfl
@[go_sem] theorem ty9_z : tyZ Tryz.prog 9 = some [.v (.string ByteArray.empty)] := by kernel_rfl
attribute [go_sem] Tryz.underlying9
@[go_sem] theorem ty12_size : tySize Tryz.prog 12 = some 1 := by kernel_rfl
@[go_sem] theorem ty12_agg : tyAgg Tryz.prog 12 = some false := by kernel_rfl
@[go_sem] theorem ty12_bytes : tyBytes Tryz.prog 12 = some 8 := by kernel_rfl
@[go_sem] theorem ty12_z : tyZ Tryz.prog 12 = some [.v (.int .u64 0)] := by kernel_rfl
attribute [go_sem] Tryz.underlying12
@[go_sem] theorem ty13_size : tySize Tryz.prog 13 = some 2 := by kernel_rfl
@[go_sem] theorem ty13_agg : tyAgg Tryz.prog 13 = some true := by kernel_rfl
@[go_sem] theorem ty13_bytes : tyBytes Tryz.prog 13 = some 24 := by kernel_rfl
@[go_sem] theorem ty13_z : tyZ Tryz.prog 13 = some [.v (.string ByteArray.empty), .v (.int .u64 0)] := by kernel_rfl
@[go_sem] theorem ty13_fok : fieldsOk Tryz.prog 13 = true := by kernel_rfl
@[go_sem] theorem ty13_f0 : tyField Tryz.prog 13 0 = some (0, 9) := by kernel_rfl
@[go_sem] theorem ty13_f1 : tyField Tryz.prog 13 1 = some (1, 12) := by kernel_rfl
attribute [go_sem] Tryz.underlying13
@[go_sem] theorem ty18_size : tySize Tryz.prog 18 = some 1 := by kernel_rfl
@[go_sem] theorem ty18_agg : tyAgg Tryz.prog 18 = some true := by kernel_rfl
@[go_sem] theorem ty18_bytes : tyBytes Tryz.prog 18 = some 8 := by kernel_rfl
@[go_sem] theorem ty18_z : tyZ Tryz.prog 18 = some [.v (.pointer none)] := by kernel_rfl
@[go_sem] theorem ty18_fok : fieldsOk Tryz.prog 18 = true := by kernel_rfl
@[go_sem] theorem ty18_f0 : tyField Tryz.prog 18 0 = some (0, 17) := by kernel_rfl
attribute [go_sem] Tryz.underlying18
@[go_sem] theorem ty21_size : tySize Tryz.prog 21 = some 1 := by kernel_rfl
@[go_sem] theorem ty21_agg : tyAgg Tryz.prog 21 = some false := by kernel_rfl
@[go_sem] theorem ty21_bytes : tyBytes Tryz.prog 21 = some 4 := by kernel_rfl
@[go_sem] theorem ty21_z : tyZ Tryz.prog 21 = some [.v (.int .i32 0)] := by kernel_rfl
attribute [go_sem] Tryz.underlying21
@[go_sem] theorem ty22_size : tySize Tryz.prog 22 = some 1 := by kernel_rfl
@[go_sem] theorem ty22_agg : tyAgg Tryz.prog 22 = some false := by kernel_rfl
@[go_sem] theorem ty22_bytes : tyBytes Tryz.prog 22 = some 24 := by kernel_rfl
@[go_sem] theorem ty22_z : tyZ Tryz.prog 22 = some [.v (.slice none 0 0)] := by kernel_rfl
@[go_sem] theorem ty22_elem : tyElem Tryz.prog 22 = some 3 := by kernel_rfl
attribute [go_sem] Tryz.underlying22
@[go_sem] theorem ty23_size : tySize Tryz.prog 23 = some 3 := by kernel_rfl
@[go_sem] theorem ty23_agg : tyAgg Tryz.prog 23 = some true := by kernel_rfl
@[go_sem] theorem ty23_bytes : tyBytes Tryz.prog 23 = some 40 := by kernel_rfl
@[go_sem] theorem ty23_z : tyZ Tryz.prog 23 = some [.v (.slice none 0 0), .v (.int .i64 0), .v (.int .i64 0)] := by kernel_rfl
@[go_sem] theorem ty23_fok : fieldsOk Tryz.prog 23 = true := by kernel_rfl
@[go_sem] theorem ty23_f0 : tyField Tryz.prog 23 0 = some (0, 22) := by kernel_rfl
@[go_sem] theorem ty23_f1 : tyField Tryz.prog 23 1 = some (1, 3) := by kernel_rfl
@[go_sem] theorem ty23_f2 : tyField Tryz.prog 23 2 = some (2, 3) := by kernel_rfl
attribute [go_sem] Tryz.underlying23
@[go_sem] theorem ty24_size : tySize Tryz.prog 24 = some 3 := by kernel_rfl
@[go_sem] theorem ty24_agg : tyAgg Tryz.prog 24 = some true := by kernel_rfl
@[go_sem] theorem ty24_bytes : tyBytes Tryz.prog 24 = some 40 := by kernel_rfl
@[go_sem] theorem ty24_z : tyZ Tryz.prog 24 = some [.v (.slice none 0 0), .v (.int .i64 0), .v (.int .i64 0)] := by kernel_rfl
@[go_sem] theorem ty24_fok : fieldsOk Tryz.prog 24 = true := by kernel_rfl
@[go_sem] theorem ty24_f0 : tyField Tryz.prog 24 0 = some (0, 22) := by kernel_rfl
@[go_sem] theorem ty24_f1 : tyField Tryz.prog 24 1 = some (1, 3) := by kernel_rfl
@[go_sem] theorem ty24_f2 : tyField Tryz.prog 24 2 = some (2, 3) := by kernel_rfl
attribute [go_sem] Tryz.underlying24
@[go_sem] theorem ty25_size : tySize Tryz.prog 25 = some 1 := by kernel_rfl
@[go_sem] theorem ty25_agg : tyAgg Tryz.prog 25 = some false := by kernel_rfl
@[go_sem] theorem ty25_bytes : tyBytes Tryz.prog 25 = some 24 := by kernel_rfl
@[go_sem] theorem ty25_z : tyZ Tryz.prog 25 = some [.v (.slice none 0 0)] := by kernel_rfl
@[go_sem] theorem ty25_elem : tyElem Tryz.prog 25 = some 165 := by kernel_rfl
attribute [go_sem] Tryz.underlying25
@[go_sem] theorem ty26_size : tySize Tryz.prog 26 = some 2 := by kernel_rfl
@[go_sem] theorem ty26_agg : tyAgg Tryz.prog 26 = some true := by kernel_rfl
@[go_sem] theorem ty26_bytes : tyBytes Tryz.prog 26 = some 32 := by kernel_rfl
@[go_sem] theorem ty26_z : tyZ Tryz.prog 26 = some [.v (.int .i64 0), .v (.slice none 0 0)] := by kernel_rfl
@[go_sem] theorem ty26_fok : fieldsOk Tryz.prog 26 = true := by kernel_rfl
@[go_sem] theorem ty26_f0 : tyField Tryz.prog 26 0 = some (0, 3) := by kernel_rfl
@[go_sem] theorem ty26_f1 : tyField Tryz.prog 26 1 = some (1, 25) := by kernel_rfl
attribute [go_sem] Tryz.underlying26
@[go_sem] theorem ty27_size : tySize Tryz.prog 27 = some 2 := by kernel_rfl
@[go_sem] theorem ty27_agg : tyAgg Tryz.prog 27 = some true := by kernel_rfl
@[go_sem] theorem ty27_bytes : tyBytes Tryz.prog 27 = some 32 := by kernel_rfl
@[go_sem] theorem ty27_z : tyZ Tryz.prog 27 = some [.v (.int .i64 0), .v (.slice none 0 0)] := by kernel_rfl
@[go_sem] theorem ty27_fok : fieldsOk Tryz.prog 27 = true := by kernel_rfl
@[go_sem] theorem ty27_f0 : tyField Tryz.prog 27 0 = some (0, 3) := by kernel_rfl
@[go_sem] theorem ty27_f1 : tyField Tryz.prog 27 1 = some (1, 25) := by kernel_rfl
attribute [go_sem] Tryz.underlying27
@[go_sem] theorem ty28_size : tySize Tryz.prog 28 = some 1 := by kernel_rfl
@[go_sem] theorem ty28_agg : tyAgg Tryz.prog 28 = some false := by kernel_rfl
@[go_sem] theorem ty28_bytes : tyBytes Tryz.prog 28 = some 24 := by kernel_rfl
@[go_sem] theorem ty28_z : tyZ Tryz.prog 28 = some [.v (.slice none 0 0)] := by kernel_rfl
@[go_sem] theorem ty28_elem : tyElem Tryz.prog 28 = some 102 := by kernel_rfl
attribute [go_sem] Tryz.underlying28
@[go_sem] theorem ty29_size : tySize Tryz.prog 29 = some 1 := by kernel_rfl
@[go_sem] theorem ty29_agg : tyAgg Tryz.prog 29 = some false := by kernel_rfl
@[go_sem] theorem ty29_bytes : tyBytes Tryz.prog 29 = some 24 := by kernel_rfl
@[go_sem] theorem ty29_z : tyZ Tryz.prog 29 = some [.v (.slice none 0 0)] := by kernel_rfl
@[go_sem] theorem ty29_elem : tyElem Tryz.prog 29 = some 130 := by kernel_rfl
attribute [go_sem] Tryz.underlying29
@[go_sem] theorem ty30_size : tySize Tryz.prog 30 = some 1 := by kernel_rfl
@[go_sem] theorem ty30_agg : tyAgg Tryz.prog 30 = some false := by kernel_rfl
@[go_sem] theorem ty30_bytes : tyBytes Tryz.prog 30 = some 24 := by kernel_rfl
@[go_sem] theorem ty30_z : tyZ Tryz.prog 30 = some [.v (.slice none 0 0)] := by kernel_rfl
@[go_sem] theorem ty30_elem : tyElem Tryz.prog 30 = some 112 := by kernel_rfl
attribute [go_sem] Tryz.underlying30
@[go_sem] theorem ty31_size : tySize Tryz.prog 31 = some 1 := by kernel_rfl
@[go_sem] theorem ty31_agg : tyAgg Tryz.prog 31 = some false := by kernel_rfl
@[go_sem] theorem ty31_bytes : tyBytes Tryz.prog 31 = some 24 := by kernel_rfl
@[go_sem] theorem ty31_z : tyZ Tryz.prog 31 = some [.v (.slice none 0 0)] := by kernel_rfl
@[go_sem] theorem ty31_elem : tyElem Tryz.prog 31 = some 117 := by kernel_rfl
attribute [go_sem] Tryz.underlying31
@[go_sem] theorem ty32_size : tySize Tryz.prog 32 = some 14 := by kernel_rfl
@[go_sem] theorem ty32_agg : tyAgg Tryz.prog 32 = some true := by kernel_rfl
@[go_sem] theorem ty32_bytes : tyBytes Tryz.prog 32 = some 240 := by kernel_rfl
@[go_sem] theorem ty32_z : tyZ Tryz.prog 32 = some [.v (.slice none 0 0), .v (.int .i64 0), .v (.int .i64 0), .v (.int .i64 0), .v (.int .i64 0), .v (.int .i64 0), .v (.int .i64 0), .v (.slice none 0 0), .v (.slice none 0 0), .v (.slice none 0 0), .v (.slice none 0 0), .v (.slice none 0 0), .v (.slice none 0 0), .v (.slice none 0 0)] := by kernel_rfl
@[go_sem] theorem ty32_fok : fieldsOk Tryz.prog 32 = true := by kernel_rfl
@[go_sem] theorem ty32_f0 : tyField Tryz.prog 32 0 = some (0, 24) := by kernel_rfl
@[go_sem] theorem ty32_f1 : tyField Tryz.prog 32 1 = some (3, 3) := by kernel_rfl
@[go_sem] theorem ty32_f2 : tyField Tryz.prog 32 2 = some (4, 3) := by kernel_rfl
@[go_sem] theorem ty32_f3 : tyField Tryz.prog 32 3 = some (5, 3) := by kernel_rfl
@[go_sem] theorem ty32_f4 : tyField Tryz.prog 32 4 = some (6, 27) := by kernel_rfl
@[go_sem] theorem ty32_f5 : tyField Tryz.prog 32 5 = some (8, 28) := by kernel_rfl
@[go_sem] theorem ty32_f6 : tyField Tryz.prog 32 6 = some (9, 22) := by kernel_rfl
@[go_sem] theorem ty32_f7 : tyField Tryz.prog 32 7 = some (10, 29) := by kernel_rfl
@[go_sem] theorem ty32_f8 : tyField Tryz.prog 32 8 = some (11, 22) := by kernel_rfl
@[go_sem] theorem ty32_f9 : tyField Tryz.prog 32 9 = some (12, 30) := by kernel_rfl
@[go_sem] theorem ty32_f10 : tyField Tryz.prog 32 10 = some (13, 31) := by kernel_rfl
attribute [go_sem] Tryz.underlying32
@[go_sem] theorem ty33_size : tySize Tryz.prog 33 = some 14 := by kernel_rfl
@[go_sem] theorem ty33_agg : tyAgg Tryz.prog 33 = some true := by kernel_rfl
@[go_sem] theorem ty33_bytes : tyBytes Tryz.prog 33 = some 240 := by kernel_rfl
@[go_sem] theorem ty33_z : tyZ Tryz.prog 33 = some [.v (.slice none 0 0), .v (.int .i64 0), .v (.int .i64 0), .v (.int .i64 0), .v (.int .i64 0), .v (.int .i64 0), .v (.int .i64 0), .v (.slice none 0 0), .v (.slice none 0 0), .v (.slice none 0 0), .v (.slice none 0 0), .v (.slice none 0 0), .v (.slice none 0 0), .v (.slice none 0 0)] := by kernel_rfl
@[go_sem] theorem ty33_fok : fieldsOk Tryz.prog 33 = true := by kernel_rfl
@[go_sem] theorem ty33_f0 : tyField Tryz.prog 33 0 = some (0, 24) := by kernel_rfl
@[go_sem] theorem ty33_f1 : tyField Tryz.prog 33 1 = some (3, 3) := by kernel_rfl
@[go_sem] theorem ty33_f2 : tyField Tryz.prog 33 2 = some (4, 3) := by kernel_rfl
@[go_sem] theorem ty33_f3 : tyField Tryz.prog 33 3 = some (5, 3) := by kernel_rfl
@[go_sem] theorem ty33_f4 : tyField Tryz.prog 33 4 = some (6, 27) := by kernel_rfl
@[go_sem] theorem ty33_f5 : tyField Tryz.prog 33 5 = some (8, 28) := by kernel_rfl
@[go_sem] theorem ty33_f6 : tyField Tryz.prog 33 6 = some (9, 22) := by kernel_rfl
@[go_sem] theorem ty33_f7 : tyField Tryz.prog 33 7 = some (10, 29) := by kernel_rfl
@[go_sem] theorem ty33_f8 : tyField Tryz.prog 33 8 = some (11, 22) := by kernel_rfl
@[go_sem] theorem ty33_f9 : tyField Tryz.prog 33 9 = some (12, 30) := by kernel_rfl
@[go_sem] theorem ty33_f10 : tyField Tryz.prog 33 10 = some (13, 31) := by kernel_rfl
attribute [go_sem] Tryz.underlying33
@[go_sem] theorem ty34_size : tySize Tryz.prog 34 = some 1 := by kernel_rfl
@[go_sem] theorem ty34_agg : tyAgg Tryz.prog 34 = some false := by kernel_rfl
@[go_sem] theorem ty34_bytes : tyBytes Tryz.prog 34 = some 24 := by kernel_rfl
@[go_sem] theorem ty34_z : tyZ Tryz.prog 34 = some [.v (.slice none 0 0)] := by kernel_rfl
@[go_sem] theorem ty34_elem : tyElem Tryz.prog 34 = some 66 := by kernel_rfl
attribute [go_sem] Tryz.underlying34
@[go_sem] theorem ty37_size : tySize Tryz.prog 37 = some 1 := by kernel_rfl
@[go_sem] theorem ty37_agg : tyAgg Tryz.prog 37 = some false := by kernel_rfl
@[go_sem] theorem ty37_bytes : tyBytes Tryz.prog 37 = some 24 := by kernel_rfl
@[go_sem] theorem ty37_z : tyZ Tryz.prog 37 = some [.v (.slice none 0 0)] := by kernel_rfl
@[go_sem] theorem ty37_elem : tyElem Tryz.prog 37 = some 70 := by kernel_rfl
attribute [go_sem] Tryz.underlying37
@[go_sem] theorem ty39_size : tySize Tryz.prog 39 = some 3 := by kernel_rfl
@[go_sem] theorem ty39_agg : tyAgg Tryz.prog 39 = some true := by kernel_rfl
@[go_sem] theorem ty39_bytes : tyBytes Tryz.prog 39 = some 40 := by kernel_rfl
@[go_sem] theorem ty39_z : tyZ Tryz.prog 39 = some [.v (.slice none 0 0), .v (.int .i64 0), .v (.int .i64 0)] := by kernel_rfl
@[go_sem] theorem ty39_fok : fieldsOk Tryz.prog 39 = true := by kernel_rfl
@[go_sem] theorem ty39_f0 : tyField Tryz.prog 39 0 = some (0, 22) := by kernel_rfl
@[go_sem] theorem ty39_f1 : tyField Tryz.prog 39 1 = some (1, 3) := by kernel_rfl
@[go_sem] theorem ty39_f2 : tyField Tryz.prog 39 2 = some (2, 3) := by kernel_rfl
attribute [go_sem] Tryz.underlying39
@[go_sem] theorem ty40_size : tySize Tryz.prog 40 = some 1 := by kernel_rfl
@[go_sem] theorem ty40_agg : tyAgg Tryz.prog 40 = some false := by kernel_rfl
@[go_sem] theorem ty40_bytes : tyBytes Tryz.prog 40 = some 24 := by kernel_rfl
@[go_sem] theorem ty40_z : tyZ Tryz.prog 40 = some [.v (.slice none 0 0)] := by kernel_rfl
@[go_sem] theorem ty40_elem : tyElem Tryz.prog 40 = some 163 := by kernel_rfl
attribute [go_sem] Tryz.underlying40
@[go_sem] theorem ty41_size : tySize Tryz.prog 41 = some 2 := by kernel_rfl
@[go_sem] theorem ty41_agg : tyAgg Tryz.prog 41 = some true := by kernel_rfl
@[go_sem] theorem ty41_bytes : tyBytes Tryz.prog 41 = some 32 := by kernel_rfl
@[go_sem] theorem ty41_z : tyZ Tryz.prog 41 = some [.v (.int .i64 0), .v (.slice none 0 0)] := by kernel_rfl
@[go_sem] theorem ty41_fok : fieldsOk Tryz.prog 41 = true := by kernel_rfl
@[go_sem] theorem ty41_f0 : tyField Tryz.prog 41 0 = some (0, 3) := by kernel_rfl
@[go_sem] theorem ty41_f1 : tyField Tryz.prog 41 1 = some (1, 40) := by kernel_rfl
attribute [go_sem] Tryz.underlying41
@[go_sem] theorem ty42_size : tySize Tryz.prog 42 = some 2 := by kernel_rfl
@[go_sem] theorem ty42_agg : tyAgg Tryz.prog 42 = some true := by kernel_rfl
@[go_sem] theorem ty42_bytes : tyBytes Tryz.prog 42 = some 32 := by kernel_rfl
@[go_sem] theorem ty42_z : tyZ Tryz.prog 42 = some [.v (.int .i64 0), .v (.slice none 0 0)] := by kernel_rfl
@[go_sem] theorem ty42_fok : fieldsOk Tryz.prog 42 = true := by kernel_rfl
@[go_sem] theorem ty42_f0 : tyField Tryz.prog 42 0 = some (0, 3) := by kernel_rfl
@[go_sem] theorem ty42_f1 : tyField Tryz.prog 42 1 = some (1, 40) := by kernel_rfl
attribute [go_sem] Tryz.underlying42
@[go_sem] theorem ty43_size : tySize Tryz.prog 43 = some 1 := by kernel_rfl
@[go_sem] theorem ty43_agg : tyAgg Tryz.prog 43 = some false := by kernel_rfl
@[go_sem] theorem ty43_bytes : tyBytes Tryz.prog 43 = some 24 := by kernel_rfl
@[go_sem] theorem ty43_z : tyZ Tryz.prog 43 = some [.v (.slice none 0 0)] := by kernel_rfl
@[go_sem] theorem ty43_elem : tyElem Tryz.prog 43 = some 125 := by kernel_rfl
attribute [go_sem] Tryz.underlying43
@[go_sem] theorem ty44_size : tySize Tryz.prog 44 = some 1 := by kernel_rfl
@[go_sem] theorem ty44_agg : tyAgg Tryz.prog 44 = some false := by kernel_rfl
@[go_sem] theorem ty44_bytes : tyBytes Tryz.prog 44 = some 24 := by kernel_rfl
@[go_sem] theorem ty44_z : tyZ Tryz.prog 44 = some [.v (.slice none 0 0)] := by kernel_rfl
@[go_sem] theorem ty44_elem : tyElem Tryz.prog 44 = some 128 := by kernel_rfl
attribute [go_sem] Tryz.underlying44
@[go_sem] theorem ty45_size : tySize Tryz.prog 45 = some 1 := by kernel_rfl
@[go_sem] theorem ty45_agg : tyAgg Tryz.prog 45 = some false := by kernel_rfl
@[go_sem] theorem ty45_bytes : tyBytes Tryz.prog 45 = some 24 := by kernel_rfl
@[go_sem] theorem ty45_z : tyZ Tryz.prog 45 = some [.v (.slice none 0 0)] := by kernel_rfl
@[go_sem] theorem ty45_elem : tyElem Tryz.prog 45 = some 138 := by kernel_rfl
attribute [go_sem] Tryz.underlying45
@[go_sem] theorem ty46_size : tySize Tryz.prog 46 = some 1 := by kernel_rfl
@[go_sem] theorem ty46_agg : tyAgg Tryz.prog 46 = some false := by kernel_rfl
@[go_sem] theorem ty46_bytes : tyBytes Tryz.prog 46 = some 24 := by kernel_rfl
@[go_sem] theorem ty46_z : tyZ Tryz.prog 46 = some [.v (.slice none 0 0)] := by kernel_rfl
@[go_sem] theorem ty46_elem : tyElem Tryz.prog 46 = some 143 := by kernel_rfl
attribute [go_sem] Tryz.underlying46
@[go_sem] theorem ty47_size : tySize Tryz.prog 47 = some 14 := by kernel_rfl
@[go_sem] theorem ty47_agg : tyAgg Tryz.prog 47 = some true := by kernel_rfl
@[go_sem] theorem ty47_bytes : tyBytes Tryz.prog 47 = some 240 := by kernel_rfl
@[go_sem] theorem ty47_z : tyZ Tryz.prog 47 = some [.v (.slice none 0 0), .v (.int .i64 0), .v (.int .i64 0), .v (.int .i64 0), .v (.int .i64 0), .v (.int .i64 0), .v (.int .i64 0), .v (.slice none 0 0), .v (.slice none 0 0), .v (.slice none 0 0), .v (.slice none 0 0), .v (.slice none 0 0), .v (.slice none 0 0), .v (.slice none 0 0)] := by kernel_rfl
@[go_sem] theorem ty47_fok : fieldsOk Tryz.prog 47 = true := by kernel_rfl
@[go_sem] theorem ty47_f0 : tyField Tryz.prog 47 0 = some (0, 39) := by kernel_rfl
@[go_sem] theorem ty47_f1 : tyField Tryz.prog 47 1 = some (3, 3) := by kernel_rfl
@[go_sem] theorem ty47_f2 : tyField Tryz.prog 47 2 = some (4, 3) := by kernel_rfl
@[go_sem] theorem ty47_f3 : tyField Tryz.prog 47 3 = some (5, 3) := by kernel_rfl
@[go_sem] theorem ty47_f4 : tyField Tryz.prog 47 4 = some (6, 42) := by kernel_rfl
@[go_sem] theorem ty47_f5 : tyField Tryz.prog 47 5 = some (8, 43) := by kernel_rfl
@[go_sem] theorem ty47_f6 : tyField Tryz.prog 47 6 = some (9, 22) := by kernel_rfl
@[go_sem] theorem ty47_f7 : tyField Tryz.prog 47 7 = some (10, 44) := by kernel_rfl
@[go_sem] theorem ty47_f8 : tyField Tryz.prog 47 8 = some (11, 22) := by kernel_rfl
@[go_sem] theorem ty47_f9 : tyField Tryz.prog 47 9 = some (12, 45) := by kernel_rfl
@[go_sem] theorem ty47_f10 : tyField Tryz.prog 47 10 = some (13, 46) := by kernel_rfl
attribute [go_sem] Tryz.underlying47
@[go_sem] theorem ty48_size : tySize Tryz.prog 48 = some 14 := by kernel_rfl
@[go_sem] theorem ty48_agg : tyAgg Tryz.prog 48 = some true := by kernel_rfl
@[go_sem] theorem ty48_bytes : tyBytes Tryz.prog 48 = some 240 := by kernel_rfl
@[go_sem] theorem ty48_z : tyZ Tryz.prog 48 = some [.v (.slice none 0 0), .v (.int .i64 0), .v (.int .i64 0), .v (.int .i64 0), .v (.int .i64 0), .v (.int .i64 0), .v (.int .i64 0), .v (.slice none 0 0), .v (.slice none 0 0), .v (.slice none 0 0), .v (.slice none 0 0), .v (.slice none 0 0), .v (.slice none 0 0), .v (.slice none 0 0)] := by kernel_rfl
@[go_sem] theorem ty48_fok : fieldsOk Tryz.prog 48 = true := by kernel_rfl
@[go_sem] theorem ty48_f0 : tyField Tryz.prog 48 0 = some (0, 39) := by kernel_rfl
@[go_sem] theorem ty48_f1 : tyField Tryz.prog 48 1 = some (3, 3) := by kernel_rfl
@[go_sem] theorem ty48_f2 : tyField Tryz.prog 48 2 = some (4, 3) := by kernel_rfl
@[go_sem] theorem ty48_f3 : tyField Tryz.prog 48 3 = some (5, 3) := by kernel_rfl
@[go_sem] theorem ty48_f4 : tyField Tryz.prog 48 4 = some (6, 42) := by kernel_rfl
@[go_sem] theorem ty48_f5 : tyField Tryz.prog 48 5 = some (8, 43) := by kernel_rfl
@[go_sem] theorem ty48_f6 : tyField Tryz.prog 48 6 = some (9, 22) := by kernel_rfl
@[go_sem] theorem ty48_f7 : tyField Tryz.prog 48 7 = some (10, 44) := by kernel_rfl
@[go_sem] theorem ty48_f8 : tyField Tryz.prog 48 8 = some (11, 22) := by kernel_rfl
@[go_sem] theorem ty48_f9 : tyField Tryz.prog 48 9 = some (12, 45) := by kernel_rfl
@[go_sem] theorem ty48_f10 : tyField Tryz.prog 48 10 = some (13, 46) := by kernel_rfl
attribute [go_sem] Tryz.underlying48
@[go_sem] theorem ty64_size : tySize Tryz.prog 64 = some 1 := by kernel_rfl
@[go_sem] theorem ty64_agg : tyAgg Tryz.prog 64 = some false := by kernel_rfl
@[go_sem] theorem ty64_bytes : tyBytes Tryz.prog 64 = some 24 := by kernel_rfl
@[go_sem] theorem ty64_z : tyZ Tryz.prog 64 = some [.v (.slice none 0 0)] := by kernel_rfl
@[go_sem] theorem ty64_elem : tyElem Tryz.prog 64 = some 105 := by kernel_rfl
attribute [go_sem] Tryz.underlying64
@[go_sem] theorem ty65_size : tySize Tryz.prog 65 = some 2 := by kernel_rfl
@[go_sem] theorem ty65_agg : tyAgg Tryz.prog 65 = some true := by kernel_rfl
@[go_sem] theorem ty65_bytes : tyBytes Tryz.prog 65 = some 32 := by kernel_rfl
@[go_sem] theorem ty65_z : tyZ Tryz.prog 65 = some [.v (.int .i64 0), .v (.slice none 0 0)] := by kernel_rfl
@[go_sem] theorem ty65_fok : fieldsOk Tryz.prog 65 = true := by kernel_rfl
@[go_sem] theorem ty65_f0 : tyField Tryz.prog 65 0 = some (0, 3) := by kernel_rfl
@[go_sem] theorem ty65_f1 : tyField Tryz.prog 65 1 = some (1, 64) := by kernel_rfl
attribute [go_sem] Tryz.underlying65
@[go_sem] theorem ty66_size : tySize Tryz.prog 66 = some 2 := by kernel_rfl
@[go_sem] theorem ty66_agg : tyAgg Tryz.prog 66 = some true := by kernel_rfl
@[go_sem] theorem ty66_bytes : tyBytes Tryz.prog 66 = some 32 := by kernel_rfl
@[go_sem] theorem ty66_z : tyZ Tryz.prog 66 = some [.v (.int .i64 0), .v (.slice none 0 0)] := by kernel_rfl
@[go_sem] theorem ty66_fok : fieldsOk Tryz.prog 66 = true := by kernel_rfl
@[go_sem] theorem ty66_f0 : tyField Tryz.prog 66 0 = some (0, 3) := by kernel_rfl
@[go_sem] theorem ty66_f1 : tyField Tryz.prog 66 1 = some (1, 64) := by kernel_rfl
attribute [go_sem] Tryz.underlying66
@[go_sem] theorem ty68_size : tySize Tryz.prog 68 = some 1 := by kernel_rfl
@[go_sem] theorem ty68_agg : tyAgg Tryz.prog 68 = some false := by kernel_rfl
@[go_sem] theorem ty68_bytes : tyBytes Tryz.prog 68 = some 24 := by kernel_rfl
@[go_sem] theorem ty68_z : tyZ Tryz.prog 68 = some [.v (.slice none 0 0)] := by kernel_rfl
@[go_sem] theorem ty68_elem : tyElem Tryz.prog 68 = some 131 := by kernel_rfl
attribute [go_sem] Tryz.underlying68
@[go_sem] theorem ty69_size : tySize Tryz.prog 69 = some 2 := by kernel_rfl
@[go_sem] theorem ty69_agg : tyAgg Tryz.prog 69 = some true := by kernel_rfl
@[go_sem] theorem ty69_bytes : tyBytes Tryz.prog 69 = some 32 := by kernel_rfl
@[go_sem] theorem ty69_z : tyZ Tryz.prog 69 = some [.v (.int .i64 0), .v (.slice none 0 0)] := by kernel_rfl
@[go_sem] theorem ty69_fok : fieldsOk Tryz.prog 69 = true := by kernel_rfl
@[go_sem] theorem ty69_f0 : tyField Tryz.prog 69 0 = some (0, 3) := by kernel_rfl
@[go_sem] theorem ty69_f1 : tyField Tryz.prog 69 1 = some (1, 68) := by kernel_rfl
attribute [go_sem] Tryz.underlying69
@[go_sem] theorem ty70_size : tySize Tryz.prog 70 = some 2 := by kernel_rfl
@[go_sem] theorem ty70_agg : tyAgg Tryz.prog 70 = some true := by kernel_rfl
@[go_sem] theorem ty70_bytes : tyBytes Tryz.prog 70 = some 32 := by kernel_rfl
@[go_sem] theorem ty70_z : tyZ Tryz.prog 70 = some [.v (.int .i64 0), .v (.slice none 0 0)] := by kernel_rfl
@[go_sem] theorem ty70_fok : fieldsOk Tryz.prog 70 = true := by kernel_rfl
@[go_sem] theorem ty70_f0 : tyField Tryz.prog 70 0 = some (0, 3) := by kernel_rfl
@[go_sem] theorem ty70_f1 : tyField Tryz.prog 70 1 = some (1, 68) := by kernel_rfl
attribute [go_sem] Tryz.underlying70
@[go_sem] theorem ty97_size : tySize Tryz.prog 97 = some 1 := by kernel_rfl
@[go_sem] theorem ty97_agg : tyAgg Tryz.prog 97 = some false := by kernel_rfl
@[go_sem] theorem ty97_bytes : tyBytes Tryz.prog 97 = some 24 := by kernel_rfl
@[go_sem] theorem ty97_z : tyZ Tryz.prog 97 = some [.v (.slice none 0 0)] := by kernel_rfl
@[go_sem] theorem ty97_elem : tyElem Tryz.prog 97 = some 187 := by kernel_rfl
attribute [go_sem] Tryz.underlying97
@[go_sem] theorem ty98_size : tySize Tryz.prog 98 = some 2 := by kernel_rfl
@[go_sem] theorem ty98_agg : tyAgg Tryz.prog 98 = some true := by kernel_rfl
@[go_sem] theorem ty98_bytes : tyBytes Tryz.prog 98 = some 32 := by kernel_rfl
@[go_sem] theorem ty98_z : tyZ Tryz.prog 98 = some [.v (.int .i64 0), .v (.slice none 0 0)] := by kernel_rfl
@[go_sem] theorem ty98_fok : fieldsOk Tryz.prog 98 = true := by kernel_rfl
@[go_sem] theorem ty98_f0 : tyField Tryz.prog 98 0 = some (0, 3) := by kernel_rfl
@[go_sem] theorem ty98_f1 : tyField Tryz.prog 98 1 = some (1, 97) := by kernel_rfl
attribute [go_sem] Tryz.underlying98
@[go_sem] theorem ty99_size : tySize Tryz.prog 99 = some 2 := by kernel_rfl
@[go_sem] theorem ty99_agg : tyAgg Tryz.prog 99 = some true := by kernel_rfl
@[go_sem] theorem ty99_bytes : tyBytes Tryz.prog 99 = some 32 := by kernel_rfl
@[go_sem] theorem ty99_z : tyZ Tryz.prog 99 = some [.v (.int .i64 0), .v (.slice none 0 0)] := by kernel_rfl
@[go_sem] theorem ty99_fok : fieldsOk Tryz.prog 99 = true := by kernel_rfl
@[go_sem] theorem ty99_f0 : tyField Tryz.prog 99 0 = some (0, 3) := by kernel_rfl
@[go_sem] theorem ty99_f1 : tyField Tryz.prog 99 1 = some (1, 97) := by kernel_rfl
attribute [go_sem] Tryz.underlying99
@[go_sem] theorem ty100_size : tySize Tryz.prog 100 = some 1 := by kernel_rfl
@[go_sem] theorem ty100_agg : tyAgg Tryz.prog 100 = some false := by kernel_rfl
@[go_sem] theorem ty100_bytes : tyBytes Tryz.prog 100 = some 24 := by kernel_rfl
@[go_sem] theorem ty100_z : tyZ Tryz.prog 100 = some [.v (.slice none 0 0)] := by kernel_rfl
@[go_sem] theorem ty100_elem : tyElem Tryz.prog 100 = some 5 := by kernel_rfl
attribute [go_sem] Tryz.underlying100
@[go_sem] theorem ty101_size : tySize Tryz.prog 101 = some 5 := by kernel_rfl
@[go_sem] theorem ty101_agg : tyAgg Tryz.prog 101 = some true := by kernel_rfl
@[go_sem] theorem ty101_bytes : tyBytes Tryz.prog 101 = some 72 := by kernel_rfl
@[go_sem] theorem ty101_z : tyZ Tryz.prog 101 = some [.v (.int .i64 0), .v (.int .i64 0), .v (.int .i64 0), .v (.slice none 0 0), .v (.slice none 0 0)] := by kernel_rfl
@[go_sem] theorem ty101_fok : fieldsOk Tryz.prog 101 = true := by kernel_rfl
@[go_sem] theorem ty101_f0 : tyField Tryz.prog 101 0 = some (0, 3) := by kernel_rfl
@[go_sem] theorem ty101_f1 : tyField Tryz.prog 101 1 = some (1, 3) := by kernel_rfl
@[go_sem] theorem ty101_f2 : tyField Tryz.prog 101 2 = some (2, 99) := by kernel_rfl
@[go_sem] theorem ty101_f3 : tyField Tryz.prog 101 3 = some (4, 100) := by kernel_rfl
attribute [go_sem] Tryz.underlying101
@[go_sem] theorem ty102_size : tySize Tryz.prog 102 = some 5 := by kernel_rfl
@[go_sem] theorem ty102_agg : tyAgg Tryz.prog 102 = some true := by kernel_rfl
@[go_sem] theorem ty102_bytes : tyBytes Tryz.prog 102 = some 72 := by kernel_rfl
@[go_sem] theorem ty102_z : tyZ Tryz.prog 102 = some [.v (.int .i64 0), .v (.int .i64 0), .v (.int .i64 0), .v (.slice none 0 0), .v (.slice none 0 0)] := by kernel_rfl
@[go_sem] theorem ty102_fok : fieldsOk Tryz.prog 102 = true := by kernel_rfl
@[go_sem] theorem ty102_f0 : tyField Tryz.prog 102 0 = some (0, 3) := by kernel_rfl
@[go_sem] theorem ty102_f1 : tyField Tryz.prog 102 1 = some (1, 3) := by kernel_rfl
@[go_sem] theorem ty102_f2 : tyField Tryz.prog 102 2 = some (2, 99) := by kernel_rfl
@[go_sem] theorem ty102_f3 : tyField Tryz.prog 102 3 = some (4, 100) := by kernel_rfl
attribute [go_sem] Tryz.underlying102
@[go_sem] theorem ty104_size : tySize Tryz.prog 104 = some 3 := by kernel_rfl
@[go_sem] theorem ty104_agg : tyAgg Tryz.prog 104 = some true := by kernel_rfl
@[go_sem] theorem ty104_bytes : tyBytes Tryz.prog 104 = some 32 := by kernel_rfl
@[go_sem] theorem ty104_z : tyZ Tryz.prog 104 = some [.v (.int .i64 0), .v (.int .i64 0), .v (.string ByteArray.empty)] := by kernel_rfl
@[go_sem] theorem ty104_fok : fieldsOk Tryz.prog 104 = true := by kernel_rfl
@[go_sem] theorem ty104_f0 : tyField Tryz.prog 104 0 = some (0, 3) := by kernel_rfl
@[go_sem] theorem ty104_f1 : tyField Tryz.prog 104 1 = some (1, 3) := by kernel_rfl
@[go_sem] theorem ty104_f2 : tyField Tryz.prog 104 2 = some (2, 9) := by kernel_rfl
attribute [go_sem] Tryz.underlying104
@[go_sem] theorem ty105_size : tySize Tryz.prog 105 = some 3 := by kernel_rfl
@[go_sem] theorem ty105_agg : tyAgg Tryz.prog 105 = some true := by kernel_rfl
@[go_sem] theorem ty105_bytes : tyBytes Tryz.prog 105 = some 32 := by kernel_rfl
@[go_sem] theorem ty105_z : tyZ Tryz.prog 105 = some [.v (.int .i64 0), .v (.int .i64 0), .v (.string ByteArray.empty)] := by kernel_rfl
@[go_sem] theorem ty105_fok : fieldsOk Tryz.prog 105 = true := by kernel_rfl
@[go_sem] theorem ty105_f0 : tyField Tryz.prog 105 0 = some (0, 3) := by kernel_rfl
@[go_sem] theorem ty105_f1 : tyField Tryz.prog 105 1 = some (1, 3) := by kernel_rfl
@[go_sem] theorem ty105_f2 : tyField Tryz.prog 105 2 = some (2, 9) := by kernel_rfl
attribute [go_sem] Tryz.underlying105
@[go_sem] theorem ty106_size : tySize Tryz.prog 106 = some 1 := by kernel_rfl
@[go_sem] theorem ty106_agg : tyAgg Tryz.prog 106 = some false := by kernel_rfl
@[go_sem] theorem ty106_bytes : tyBytes Tryz.prog 106 = some 24 := by kernel_rfl
@[go_sem] theorem ty106_z : tyZ Tryz.prog 106 = some [.v (.slice none 0 0)] := by kernel_rfl
@[go_sem] theorem ty106_elem : tyElem Tryz.prog 106 = some 108 := by kernel_rfl
attribute [go_sem] Tryz.underlying106
@[go_sem] theorem ty107_size : tySize Tryz.prog 107 = some 7 := by kernel_rfl
@[go_sem] theorem ty107_agg : tyAgg Tryz.prog 107 = some true := by kernel_rfl
@[go_sem] theorem ty107_bytes : tyBytes Tryz.prog 107 = some 80 := by kernel_rfl
@[go_sem] theorem ty107_z : tyZ Tryz.prog 107 = some [.v (.int .i64 0), .v (.int .i64 0), .v (.int .i64 0), .v (.int .i64 0), .v (.int .i64 0), .v (.string ByteArray.empty), .v (.slice none 0 0)] := by kernel_rfl
@[go_sem] theorem ty107_fok : fieldsOk Tryz.prog 107 = true := by kernel_rfl
@[go_sem] theorem ty107_f0 : tyField Tryz.prog 107 0 = some (0, 3) := by kernel_rfl
@[go_sem] theorem ty107_f1 : tyField Tryz.prog 107 1 = some (1, 3) := by kernel_rfl
@[go_sem] theorem ty107_f2 : tyField Tryz.prog 107 2 = some (2, 3) := by kernel_rfl
@[go_sem] theorem ty107_f3 : tyField Tryz.prog 107 3 = some (3, 105) := by kernel_rfl
@[go_sem] theorem ty107_f4 : tyField Tryz.prog 107 4 = some (6, 106) := by kernel_rfl
attribute [go_sem] Tryz.underlying107
@[go_sem] theorem ty108_size : tySize Tryz.prog 108 = some 7 := by kernel_rfl
@[go_sem] theorem ty108_agg : tyAgg Tryz.prog 108 = some true := by kernel_rfl
@[go_sem] theorem ty108_bytes : tyBytes Tryz.prog 108 = some 80 := by kernel_rfl
@[go_sem] theorem ty108_z : tyZ Tryz.prog 108 = some [.v (.int .i64 0), .v (.int .i64 0), .v (.int .i64 0), .v (.int .i64 0), .v (.int .i64 0), .v (.string ByteArray.empty), .v (.slice none 0 0)] := by kernel_rfl
@[go_sem] theorem ty108_fok : fieldsOk Tryz.prog 108 = true := by kernel_rfl
@[go_sem] theorem ty108_f0 : tyField Tryz.prog 108 0 = some (0, 3) := by kernel_rfl
@[go_sem] theorem ty108_f1 : tyField Tryz.prog 108 1 = some (1, 3) := by kernel_rfl
@[go_sem] theorem ty108_f2 : tyField Tryz.prog 108 2 = some (2, 3) := by kernel_rfl
@[go_sem] theorem ty108_f3 : tyField Tryz.prog 108 3 = some (3, 105) := by kernel_rfl
@[go_sem] theorem ty108_f4 : tyField Tryz.prog 108 4 = some (6, 106) := by kernel_rfl
attribute [go_sem] Tryz.underlying108
@[go_sem] theorem ty109_size : tySize Tryz.prog 109 = some 10 := by kernel_rfl
@[go_sem] theorem ty109_agg : tyAgg Tryz.prog 109 = some true := by kernel_rfl
@[go_sem] theorem ty109_bytes : tyBytes Tryz.prog 109 = some 120 := by kernel_rfl
@[go_sem] theorem ty109_z : tyZ Tryz.prog 109 = some [.v (.int .i64 0), .v (.int .i64 0), .v (.int .i64 0), .v (.int .i64 0), .v (.int .i64 0), .v (.int .i64 0), .v (.string ByteArray.empty), .v (.slice none 0 0), .v (.int .i64 0), .v (.slice none 0 0)] := by kernel_rfl
@[go_sem] theorem ty109_fok : fieldsOk Tryz.prog 109 = true := by kernel_rfl
@[go_sem] theorem ty109_f0 : tyField Tryz.prog 109 0 = some (0, 3) := by kernel_rfl
@[go_sem] theorem ty109_f1 : tyField Tryz.prog 109 1 = some (1, 108) := by kernel_rfl
@[go_sem] theorem ty109_f2 : tyField Tryz.prog 109 2 = some (8, 3) := by kernel_rfl
@[go_sem] theorem ty109_f3 : tyField Tryz.prog 109 3 = some (9, 22) := by kernel_rfl
attribute [go_sem] Tryz.underlying109
@[go_sem] theorem ty110_size : tySize Tryz.prog 110 = some 10 := by kernel_rfl
@[go_sem] theorem ty110_agg : tyAgg Tryz.prog 110 = some true := by kernel_rfl
@[go_sem] theorem ty110_bytes : tyBytes Tryz.prog 110 = some 120 := by kernel_rfl
@[go_sem] theorem ty110_z : tyZ Tryz.prog 110 = some [.v (.int .i64 0), .v (.int .i64 0), .v (.int .i64 0), .v (.int .i64 0), .v (.int .i64 0), .v (.int .i64 0), .v (.string ByteArray.empty), .v (.slice none 0 0), .v (.int .i64 0), .v (.slice none 0 0)] := by kernel_rfl
@[go_sem] theorem ty110_fok : fieldsOk Tryz.prog 110 = true := by kernel_rfl
@[go_sem] theorem ty110_f0 : tyField Tryz.prog 110 0 = some (0, 3) := by kernel_rfl
@[go_sem] theorem ty110_f1 : tyField Tryz.prog 110 1 = some (1, 108) := by kernel_rfl
@[go_sem] theorem ty110_f2 : tyField Tryz.prog 110 2 = some (8, 3) := by kernel_rfl
@[go_sem] theorem ty110_f3 : tyField Tryz.prog 110 3 = some (9, 22) := by kernel_rfl
attribute [go_sem] Tryz.underlying110
@[go_sem] theorem ty111_size : tySize Tryz.prog 111 = some 25 := by kernel_rfl
@[go_sem] theorem ty111_agg : tyAgg Tryz.prog 111 = some true := by kernel_rfl
@[go_sem] theorem ty111_bytes : tyBytes Tryz.prog 111 = some 288 := by kernel_rfl
@[go_sem] theorem ty111_z : tyZ Tryz.prog 111 = some [.v (.int .i64 0), .v (.int .i64 0), .v (.int .i64 0), .v (.slice none 0 0), .v (.int .i64 0), .v (.int .i64 0), .v (.int .i64 0), .v (.int .i64 0), .v (.int .i64 0), .v (.int .i64 0), .v (.int .i64 0), .v (.string ByteArray.empty), .v (.slice none 0 0), .v (.int .i64 0), .v (.slice none 0 0), .v (.int .i64 0), .v (.int .i64 0), .v (.slice none 0 0), .v (.int .i64 0), .v (.int .i64 0), .v (.int .i64 0), .v (.int .i64 0), .v (.int .i64 0), .v (.bool false), .v (.slice none 0 0)] := by kernel_rfl
@[go_sem] theorem ty111_fok : fieldsOk Tryz.prog 111 = true := by kernel_rfl
@[go_sem] theorem ty111_f0 : tyField Tryz.prog 111 0 = some (0, 3) := by kernel_rfl
@[go_sem] theorem ty111_f1 : tyField Tryz.prog 111 1 = some (1, 3) := by kernel_rfl
@[go_sem] theorem ty111_f2 : tyField Tryz.prog 111 2 = some (2, 3) := by kernel_rfl
@[go_sem] theorem ty111_f3 : tyField Tryz.prog 111 3 = some (3, 64) := by kernel_rfl
@[go_sem] theorem ty111_f4 : tyField Tryz.prog 111 4 = some (4, 3) := by kernel_rfl
@[go_sem] theorem ty111_f5 : tyField Tryz.prog 111 5 = some (5, 110) := by kernel_rfl
@[go_sem] theorem ty111_f6 : tyField Tryz.prog 111 6 = some (15, 3) := by kernel_rfl
@[go_sem] theorem ty111_f7 : tyField Tryz.prog 111 7 = some (16, 3) := by kernel_rfl
@[go_sem] theorem ty111_f8 : tyField Tryz.prog 111 8 = some (17, 25) := by kernel_rfl
@[go_sem] theorem ty111_f9 : tyField Tryz.prog 111 9 = some (18, 3) := by kernel_rfl
@[go_sem] theorem ty111_f10 : tyField Tryz.prog 111 10 = some (19, 3) := by kernel_rfl
@[go_sem] theorem ty111_f11 : tyField Tryz.prog 111 11 = some (20, 3) := by kernel_rfl
@[go_sem] theorem ty111_f12 : tyField Tryz.prog 111 12 = some (21, 3) := by kernel_rfl
@[go_sem] theorem ty111_f13 : tyField Tryz.prog 111 13 = some (22, 3) := by kernel_rfl
@[go_sem] theorem ty111_f14 : tyField Tryz.prog 111 14 = some (23, 4) := by kernel_rfl
@[go_sem] theorem ty111_f15 : tyField Tryz.prog 111 15 = some (24, 34) := by kernel_rfl
attribute [go_sem] Tryz.underlying111
@[go_sem] theorem ty112_size : tySize Tryz.prog 112 = some 25 := by kernel_rfl
@[go_sem] theorem ty112_agg : tyAgg Tryz.prog 112 = some true := by kernel_rfl
@[go_sem] theorem ty112_bytes : tyBytes Tryz.prog 112 = some 288 := by kernel_rfl
@[go_sem] theorem ty112_z : tyZ Tryz.prog 112 = some [.v (.int .i64 0), .v (.int .i64 0), .v (.int .i64 0), .v (.slice none 0 0), .v (.int .i64 0), .v (.int .i64 0), .v (.int .i64 0), .v (.int .i64 0), .v (.int .i64 0), .v (.int .i64 0), .v (.int .i64 0), .v (.string ByteArray.empty), .v (.slice none 0 0), .v (.int .i64 0), .v (.slice none 0 0), .v (.int .i64 0), .v (.int .i64 0), .v (.slice none 0 0), .v (.int .i64 0), .v (.int .i64 0), .v (.int .i64 0), .v (.int .i64 0), .v (.int .i64 0), .v (.bool false), .v (.slice none 0 0)] := by kernel_rfl
@[go_sem] theorem ty112_fok : fieldsOk Tryz.prog 112 = true := by kernel_rfl
@[go_sem] theorem ty112_f0 : tyField Tryz.prog 112 0 = some (0, 3) := by kernel_rfl
@[go_sem] theorem ty112_f1 : tyField Tryz.prog 112 1 = some (1, 3) := by kernel_rfl
@[go_sem] theorem ty112_f2 : tyField Tryz.prog 112 2 = some (2, 3) := by kernel_rfl
@[go_sem] theorem ty112_f3 : tyField Tryz.prog 112 3 = some (3, 64) := by kernel_rfl
@[go_sem] theorem ty112_f4 : tyField Tryz.prog 112 4 = some (4, 3) := by kernel_rfl
@[go_sem] theorem ty112_f5 : tyField Tryz.prog 112 5 = some (5, 110) := by kernel_rfl
@[go_sem] theorem ty112_f6 : tyField Tryz.prog 112 6 = some (15, 3) := by kernel_rfl
@[go_sem] theorem ty112_f7 : tyField Tryz.prog 112 7 = some (16, 3) := by kernel_rfl
@[go_sem] theorem ty112_f8 : tyField Tryz.prog 112 8 = some (17, 25) := by kernel_rfl
@[go_sem] theorem ty112_f9 : tyField Tryz.prog 112 9 = some (18, 3) := by kernel_rfl
@[go_sem] theorem ty112_f10 : tyField Tryz.prog 112 10 = some (19, 3) := by kernel_rfl
@[go_sem] theorem ty112_f11 : tyField Tryz.prog 112 11 = some (20, 3) := by kernel_rfl
@[go_sem] theorem ty112_f12 : tyField Tryz.prog 112 12 = some (21, 3) := by kernel_rfl
@[go_sem] theorem ty112_f13 : tyField Tryz.prog 112 13 = some (22, 3) := by kernel_rfl
@[go_sem] theorem ty112_f14 : tyField Tryz.prog 112 14 = some (23, 4) := by kernel_rfl
@[go_sem] theorem ty112_f15 : tyField Tryz.prog 112 15 = some (24, 34) := by kernel_rfl
attribute [go_sem] Tryz.underlying112
@[go_sem] theorem ty114_size : tySize Tryz.prog 114 = some 6 := by kernel_rfl
@[go_sem] theorem ty114_agg : tyAgg Tryz.prog 114 = some true := by kernel_rfl
@[go_sem] theorem ty114_bytes : tyBytes Tryz.prog 114 = some 72 := by kernel_rfl
@[go_sem] theorem ty114_z : tyZ Tryz.prog 114 = some [.v (.slice none 0 0), .v (.int .i64 0), .v (.bool false), .v (.int .i64 0), .v (.int .i64 0), .v (.string ByteArray.empty)] := by kernel_rfl
@[go_sem] theorem ty114_fok : fieldsOk Tryz.prog 114 = true := by kernel_rfl
@[go_sem] theorem ty114_f0 : tyField Tryz.prog 114 0 = some (0, 34) := by kernel_rfl
@[go_sem] theorem ty114_f1 : tyField Tryz.prog 114 1 = some (1, 3) := by kernel_rfl
@[go_sem] theorem ty114_f2 : tyField Tryz.prog 114 2 = some (2, 4) := by kernel_rfl
@[go_sem] theorem ty114_f3 : tyField Tryz.prog 114 3 = some (3, 105) := by kernel_rfl
attribute [go_sem] Tryz.underlying114
@[go_sem] theorem ty115_size : tySize Tryz.prog 115 = some 6 := by kernel_rfl
@[go_sem] theorem ty115_agg : tyAgg Tryz.prog 115 = some true := by kernel_rfl
@[go_sem] theorem ty115_bytes : tyBytes Tryz.prog 115 = some 72 := by kernel_rfl
@[go_sem] theorem ty115_z : tyZ Tryz.prog 115 = some [.v (.slice none 0 0), .v (.int .i64 0), .v (.bool false), .v (.int .i64 0), .v (.int .i64 0), .v (.string ByteArray.empty)] := by kernel_rfl
@[go_sem] theorem ty115_fok : fieldsOk Tryz.prog 115 = true := by kernel_rfl
@[go_sem] theorem ty115_f0 : tyField Tryz.prog 115 0 = some (0, 34) := by kernel_rfl
@[go_sem] theorem ty115_f1 : tyField Tryz.prog 115 1 = some (1, 3) := by kernel_rfl
@[go_sem] theorem ty115_f2 : tyField Tryz.prog 115 2 = some (2, 4) := by kernel_rfl
@[go_sem] theorem ty115_f3 : tyField Tryz.prog 115 3 = some (3, 105) := by kernel_rfl
attribute [go_sem] Tryz.underlying115
@[go_sem] theorem ty116_size : tySize Tryz.prog 116 = some 25 := by kernel_rfl
@[go_sem] theorem ty116_agg : tyAgg Tryz.prog 116 = some true := by kernel_rfl
@[go_sem] theorem ty116_bytes : tyBytes Tryz.prog 116 = some 280 := by kernel_rfl
@[go_sem] theorem ty116_z : tyZ Tryz.prog 116 = some [.v (.int .i64 0), .v (.int .i64 0), .v (.slice none 0 0), .v (.int .i64 0), .v (.int .i64 0), .v (.int .i64 0), .v (.int .i64 0), .v (.int .i64 0), .v (.int .i64 0), .v (.int .i64 0), .v (.string ByteArray.empty), .v (.slice none 0 0), .v (.int .i64 0), .v (.slice none 0 0), .v (.slice none 0 0), .v (.int .i64 0), .v (.bool false), .v (.int .i64 0), .v (.int .i64 0), .v (.string ByteArray.empty), .v (.int .i64 0), .v (.int .i64 0), .v (.int .i64 0), .v (.int .i64 0), .v (.int .i64 0)] := by kernel_rfl
@[go_sem] theorem ty116_fok : fieldsOk Tryz.prog 116 = true := by kernel_rfl
@[go_sem] theorem ty116_f0 : tyField Tryz.prog 116 0 = some (0, 3) := by kernel_rfl
@[go_sem] theorem ty116_f1 : tyField Tryz.prog 116 1 = some (1, 3) := by kernel_rfl
@[go_sem] theorem ty116_f2 : tyField Tryz.prog 116 2 = some (2, 64) := by kernel_rfl
@[go_sem] theorem ty116_f3 : tyField Tryz.prog 116 3 = some (3, 3) := by kernel_rfl
@[go_sem] theorem ty116_f4 : tyField Tryz.prog 116 4 = some (4, 110) := by kernel_rfl
@[go_sem] theorem ty116_f5 : tyField Tryz.prog 116 5 = some (14, 115) := by kernel_rfl
@[go_sem] theorem ty116_f6 : tyField Tryz.prog 116 6 = some (20, 3) := by kernel_rfl
@[go_sem] theorem ty116_f7 : tyField Tryz.prog 116 7 = some (21, 3) := by kernel_rfl
@[go_sem] theorem ty116_f8 : tyField Tryz.prog 116 8 = some (22, 3) := by kernel_rfl
@[go_sem] theorem ty116_f9 : tyField Tryz.prog 116 9 = some (23, 3) := by kernel_rfl
@[go_sem] theorem ty116_f10 : tyField Tryz.prog 116 10 = some (24, 3) := by kernel_rfl
attribute [go_sem] Tryz.underlying116
@[go_sem] theorem ty117_size : tySize Tryz.prog 117 = some 25 := by kernel_rfl
@[go_sem] theorem ty117_agg : tyAgg Tryz.prog 117 = some true := by kernel_rfl
@[go_sem] theorem ty117_bytes : tyBytes Tryz.prog 117 = some 280 := by kernel_rfl
@[go_sem] theorem ty117_z : tyZ Tryz.prog 117 = some [.v (.int .i64 0), .v (.int .i64 0), .v (.slice none 0 0), .v (.int .i64 0), .v (.int .i64 0), .v (.int .i64 0), .v (.int .i64 0), .v (.int .i64 0), .v (.int .i64 0), .v (.int .i64 0), .v (.string ByteArray.empty), .v (.slice none 0 0), .v (.int .i64 0), .v (.slice none 0 0), .v (.slice none 0 0), .v (.int .i64 0), .v (.bool false), .v (.int .i64 0), .v (.int .i64 0), .v (.string ByteArray.empty), .v (.int .i64 0), .v (.int .i64 0), .v (.int .i64 0), .v (.int .i64 0), .v (.int .i64 0)] := by kernel_rfl
@[go_sem] theorem ty117_fok : fieldsOk Tryz.prog 117 = true := by kernel_rfl
@[go_sem] theorem ty117_f0 : tyField Tryz.prog 117 0 = some (0, 3) := by kernel_rfl
@[go_sem] theorem ty117_f1 : tyField Tryz.prog 117 1 = some (1, 3) := by kernel_rfl
@[go_sem] theorem ty117_f2 : tyField Tryz.prog 117 2 = some (2, 64) := by kernel_rfl
@[go_sem] theorem ty117_f3 : tyField Tryz.prog 117 3 = some (3, 3) := by kernel_rfl
@[go_sem] theorem ty117_f4 : tyField Tryz.prog 117 4 = some (4, 110) := by kernel_rfl
@[go_sem] theorem ty117_f5 : tyField Tryz.prog 117 5 = some (14, 115) := by kernel_rfl
@[go_sem] theorem ty117_f6 : tyField Tryz.prog 117 6 = some (20, 3) := by kernel_rfl
@[go_sem] theorem ty117_f7 : tyField Tryz.prog 117 7 = some (21, 3) := by kernel_rfl
@[go_sem] theorem ty117_f8 : tyField Tryz.prog 117 8 = some (22, 3) := by kernel_rfl
@[go_sem] theorem ty117_f9 : tyField Tryz.prog 117 9 = some (23, 3) := by kernel_rfl
@[go_sem] theorem ty117_f10 : tyField Tryz.prog 117 10 = some (24, 3) := by kernel_rfl
attribute [go_sem] Tryz.underlying117
@[go_sem] theorem ty121_size : tySize Tryz.prog 121 = some 1 := by kernel_rfl
@[go_sem] theorem ty121_agg : tyAgg Tryz.prog 121 = some false := by kernel_rfl
@[go_sem] theorem ty121_bytes : tyBytes Tryz.prog 121 = some 24 := by kernel_rfl
@[go_sem] theorem ty121_z : tyZ Tryz.prog 121 = some [.v (.slice none 0 0)] := by kernel_rfl
@[go_sem] theorem ty121_elem : tyElem Tryz.prog 121 = some 178 := by kernel_rfl
attribute [go_sem] Tryz.underlying121
@[go_sem] theorem ty122_size : tySize Tryz.prog 122 = some 2 := by kernel_rfl
@[go_sem] theorem ty122_agg : tyAgg Tryz.prog 122 = some true := by kernel_rfl
@[go_sem] theorem ty122_bytes : tyBytes Tryz.prog 122 = some 32 := by kernel_rfl
@[go_sem] theorem ty122_z : tyZ Tryz.prog 122 = some [.v (.int .i64 0), .v (.slice none 0 0)] := by kernel_rfl
@[go_sem] theorem ty122_fok : fieldsOk Tryz.prog 122 = true := by kernel_rfl
@[go_sem] theorem ty122_f0 : tyField Tryz.prog 122 0 = some (0, 3) := by kernel_rfl
@[go_sem] theorem ty122_f1 : tyField Tryz.prog 122 1 = some (1, 121) := by kernel_rfl
attribute [go_sem] Tryz.underlying122
@[go_sem] theorem ty123_size : tySize Tryz.prog 123 = some 2 := by kernel_rfl
@[go_sem] theorem ty123_agg : tyAgg Tryz.prog 123 = some true := by kernel_rfl
@[go_sem] theorem ty123_bytes : tyBytes Tryz.prog 123 = some 32 := by kernel_rfl
@[go_sem] theorem ty123_z : tyZ Tryz.prog 123 = some [.v (.int .i64 0), .v (.slice none 0 0)] := by kernel_rfl
@[go_sem] theorem ty123_fok : fieldsOk Tryz.prog 123 = true := by kernel_rfl
@[go_sem] theorem ty123_f0 : tyField Tryz.prog 123 0 = some (0, 3) := by kernel_rfl
@[go_sem] theorem ty123_f1 : tyField Tryz.prog 123 1 = some (1, 121) := by kernel_rfl
attribute [go_sem] Tryz.underlying123
@[go_sem] theorem ty124_size : tySize Tryz.prog 124 = some 5 := by kernel_rfl
@[go_sem] theorem ty124_agg : tyAgg Tryz.prog 124 = some true := by kernel_rfl
@[go_sem] theorem ty124_bytes : tyBytes Tryz.prog 124 = some 72 := by kernel_rfl
@[go_sem] theorem ty124_z : tyZ Tryz.prog 124 = some [.v (.int .i64 0), .v (.int .i64 0), .v (.int .i64 0), .v (.slice none 0 0), .v (.slice none 0 0)] := by kernel_rfl
@[go_sem] theorem ty124_fok : fieldsOk Tryz.prog 124 = true := by kernel_rfl
@[go_sem] theorem ty124_f0 : tyField Tryz.prog 124 0 = some (0, 3) := by kernel_rfl
@[go_sem] theorem ty124_f1 : tyField Tryz.prog 124 1 = some (1, 3) := by kernel_rfl
@[go_sem] theorem ty124_f2 : tyField Tryz.prog 124 2 = some (2, 123) := by kernel_rfl
@[go_sem] theorem ty124_f3 : tyField Tryz.prog 124 3 = some (4, 100) := by kernel_rfl
attribute [go_sem] Tryz.underlying124
@[go_sem] theorem ty125_size : tySize Tryz.prog 125 = some 5 := by kernel_rfl
@[go_sem] theorem ty125_agg : tyAgg Tryz.prog 125 = some true := by kernel_rfl
@[go_sem] theorem ty125_bytes : tyBytes Tryz.prog 125 = some 72 := by kernel_rfl
@[go_sem] theorem ty125_z : tyZ Tryz.prog 125 = some [.v (.int .i64 0), .v (.int .i64 0), .v (.int .i64 0), .v (.slice none 0 0), .v (.slice none 0 0)] := by kernel_rfl
@[go_sem] theorem ty125_fok : fieldsOk Tryz.prog 125 = true := by kernel_rfl
@[go_sem] theorem ty125_f0 : tyField Tryz.prog 125 0 = some (0, 3) := by kernel_rfl
@[go_sem] theorem ty125_f1 : tyField Tryz.prog 125 1 = some (1, 3) := by kernel_rfl
@[go_sem] theorem ty125_f2 : tyField Tryz.prog 125 2 = some (2, 123) := by kernel_rfl
@[go_sem] theorem ty125_f3 : tyField Tryz.prog 125 3 = some (4, 100) := by kernel_rfl
attribute [go_sem] Tryz.underlying125
@[go_sem] theorem ty127_size : tySize Tryz.prog 127 = some 3 := by kernel_rfl
@[go_sem] theorem ty127_agg : tyAgg Tryz.prog 127 = some true := by kernel_rfl
@[go_sem] theorem ty127_bytes : tyBytes Tryz.prog 127 = some 24 := by kernel_rfl
@[go_sem] theorem ty127_z : tyZ Tryz.prog 127 = some [.v (.int .i64 0), .v (.int .i64 0), .v (.int .i64 0)] := by kernel_rfl
@[go_sem] theorem ty127_fok : fieldsOk Tryz.prog 127 = true := by kernel_rfl
@[go_sem] theorem ty127_f0 : tyField Tryz.prog 127 0 = some (0, 3) := by kernel_rfl
@[go_sem] theorem ty127_f1 : tyField Tryz.prog 127 1 = some (1, 3) := by kernel_rfl
@[go_sem] theorem ty127_f2 : tyField Tryz.prog 127 2 = some (2, 3) := by kernel_rfl
attribute [go_sem] Tryz.underlying127
@[go_sem] theorem ty128_size : tySize Tryz.prog 128 = some 3 := by kernel_rfl
@[go_sem] theorem ty128_agg : tyAgg Tryz.prog 128 = some true := by kernel_rfl
@[go_sem] theorem ty128_bytes : tyBytes Tryz.prog 128 = some 24 := by kernel_rfl
@[go_sem] theorem ty128_z : tyZ Tryz.prog 128 = some [.v (.int .i64 0), .v (.int .i64 0), .v (.int .i64 0)] := by kernel_rfl
@[go_sem] theorem ty128_fok : fieldsOk Tryz.prog 128 = true := by kernel_rfl
@[go_sem] theorem ty128_f0 : tyField Tryz.prog 128 0 = some (0, 3) := by kernel_rfl
@[go_sem] theorem ty128_f1 : tyField Tryz.prog 128 1 = some (1, 3) := by kernel_rfl
@[go_sem] theorem ty128_f2 : tyField Tryz.prog 128 2 = some (2, 3) := by kernel_rfl
attribute [go_sem] Tryz.underlying128
@[go_sem] theorem ty130_size : tySize Tryz.prog 130 = some 3 := by kernel_rfl
@[go_sem] theorem ty130_agg : tyAgg Tryz.prog 130 = some true := by kernel_rfl
@[go_sem] theorem ty130_bytes : tyBytes Tryz.prog 130 = some 24 := by kernel_rfl
@[go_sem] theorem ty130_z : tyZ Tryz.prog 130 = some [.v (.int .i64 0), .v (.int .i64 0), .v (.int .i64 0)] := by kernel_rfl
@[go_sem] theorem ty130_fok : fieldsOk Tryz.prog 130 = true := by kernel_rfl
@[go_sem] theorem ty130_f0 : tyField Tryz.prog 130 0 = some (0, 3) := by kernel_rfl
@[go_sem] theorem ty130_f1 : tyField Tryz.prog 130 1 = some (1, 3) := by kernel_rfl
@[go_sem] theorem ty130_f2 : tyField Tryz.prog 130 2 = some (2, 3) := by kernel_rfl
attribute [go_sem] Tryz.underlying130
@[go_sem] theorem ty131_size : tySize Tryz.prog 131 = some 3 := by kernel_rfl
@[go_sem] theorem ty131_agg : tyAgg Tryz.prog 131 = some true := by kernel_rfl
@[go_sem] theorem ty131_bytes : tyBytes Tryz.prog 131 = some 32 := by kernel_rfl
@[go_sem] theorem ty131_z : tyZ Tryz.prog 131 = some [.v (.int .i64 0), .v (.int .i64 0), .v (.string ByteArray.empty)] := by kernel_rfl
@[go_sem] theorem ty131_fok : fieldsOk Tryz.prog 131 = true := by kernel_rfl
@[go_sem] theorem ty131_f0 : tyField Tryz.prog 131 0 = some (0, 3) := by kernel_rfl
@[go_sem] theorem ty131_f1 : tyField Tryz.prog 131 1 = some (1, 3) := by kernel_rfl
@[go_sem] theorem ty131_f2 : tyField Tryz.prog 131 2 = some (2, 9) := by kernel_rfl
attribute [go_sem] Tryz.underlying131
@[go_sem] theorem ty132_size : tySize Tryz.prog 132 = some 1 := by kernel_rfl
@[go_sem] theorem ty132_agg : tyAgg Tryz.prog 132 = some false := by kernel_rfl
@[go_sem] theorem ty132_bytes : tyBytes Tryz.prog 132 = some 24 := by kernel_rfl
@[go_sem] theorem ty132_z : tyZ Tryz.prog 132 = some [.v (.slice none 0 0)] := by kernel_rfl
@[go_sem] theorem ty132_elem : tyElem Tryz.prog 132 = some 134 := by kernel_rfl
attribute [go_sem] Tryz.underlying132
@[go_sem] theorem ty133_size : tySize Tryz.prog 133 = some 7 := by kernel_rfl
@[go_sem] theorem ty133_agg : tyAgg Tryz.prog 133 = some true := by kernel_rfl
@[go_sem] theorem ty133_bytes : tyBytes Tryz.prog 133 = some 80 := by kernel_rfl
@[go_sem] theorem ty133_z : tyZ Tryz.prog 133 = some [.v (.int .i64 0), .v (.int .i64 0), .v (.int .i64 0), .v (.int .i64 0), .v (.int .i64 0), .v (.string ByteArray.empty), .v (.slice none 0 0)] := by kernel_rfl
@[go_sem] theorem ty133_fok : fieldsOk Tryz.prog 133 = true := by kernel_rfl
@[go_sem] theorem ty133_f0 : tyField Tryz.prog 133 0 = some (0, 3) := by kernel_rfl
@[go_sem] theorem ty133_f1 : tyField Tryz.prog 133 1 = some (1, 3) := by kernel_rfl
@[go_sem] theorem ty133_f2 : tyField Tryz.prog 133 2 = some (2, 3) := by kernel_rfl
@[go_sem] theorem ty133_f3 : tyField Tryz.prog 133 3 = some (3, 131) := by kernel_rfl
@[go_sem] theorem ty133_f4 : tyField Tryz.prog 133 4 = some (6, 132) := by kernel_rfl
attribute [go_sem] Tryz.underlying133
@[go_sem] theorem ty134_size : tySize Tryz.prog 134 = some 7 := by kernel_rfl
@[go_sem] theorem ty134_agg : tyAgg Tryz.prog 134 = some true := by kernel_rfl
@[go_sem] theorem ty134_bytes : tyBytes Tryz.prog 134 = some 80 := by kernel_rfl
@[go_sem] theorem ty134_z : tyZ Tryz.prog 134 = some [.v (.int .i64 0), .v (.int .i64 0), .v (.int .i64 0), .v (.int .i64 0), .v (.int .i64 0), .v (.string ByteArray.empty), .v (.slice none 0 0)] := by kernel_rfl
@[go_sem] theorem ty134_fok : fieldsOk Tryz.prog 134 = true := by kernel_rfl
@[go_sem] theorem ty134_f0 : tyField Tryz.prog 134 0 = some (0, 3) := by kernel_rfl
@[go_sem] theorem ty134_f1 : tyField Tryz.prog 134 1 = some (1, 3) := by kernel_rfl
@[go_sem] theorem ty134_f2 : tyField Tryz.prog 134 2 = some (2, 3) := by kernel_rfl
@[go_sem] theorem ty134_f3 : tyField Tryz.prog 134 3 = some (3, 131) := by kernel_rfl
@[go_sem] theorem ty134_f4 : tyField Tryz.prog 134 4 = some (6, 132) := by kernel_rfl
attribute [go_sem] Tryz.underlying134
@[go_sem] theorem ty135_size : tySize Tryz.prog 135 = some 10 := by kernel_rfl
@[go_sem] theorem ty135_agg : tyAgg Tryz.prog 135 = some true := by kernel_rfl
@[go_sem] theorem ty135_bytes : tyBytes Tryz.prog 135 = some 120 := by kernel_rfl
@[go_sem] theorem ty135_z : tyZ Tryz.prog 135 = some [.v (.int .i64 0), .v (.int .i64 0), .v (.int .i64 0), .v (.int .i64 0), .v (.int .i64 0), .v (.int .i64 0), .v (.string ByteArray.empty), .v (.slice none 0 0), .v (.int .i64 0), .v (.slice none 0 0)] := by kernel_rfl
@[go_sem] theorem ty135_fok : fieldsOk Tryz.prog 135 = true := by kernel_rfl
@[go_sem] theorem ty135_f0 : tyField Tryz.prog 135 0 = some (0, 3) := by kernel_rfl
@[go_sem] theorem ty135_f1 : tyField Tryz.prog 135 1 = some (1, 134) := by kernel_rfl
@[go_sem] theorem ty135_f2 : tyField Tryz.prog 135 2 = some (8, 3) := by kernel_rfl
@[go_sem] theorem ty135_f3 : tyField Tryz.prog 135 3 = some (9, 22) := by kernel_rfl
attribute [go_sem] Tryz.underlying135
@[go_sem] theorem ty136_size : tySize Tryz.prog 136 = some 10 := by kernel_rfl
@[go_sem] theorem ty136_agg : tyAgg Tryz.prog 136 = some true := by kernel_rfl
@[go_sem] theorem ty136_bytes : tyBytes Tryz.prog 136 = some 120 := by kernel_rfl
@[go_sem] theorem ty136_z : tyZ Tryz.prog 136 = some [.v (.int .i64 0), .v (.int .i64 0), .v (.int .i64 0), .v (.int .i64 0), .v (.int .i64 0), .v (.int .i64 0), .v (.string ByteArray.empty), .v (.slice none 0 0), .v (.int .i64 0), .v (.slice none 0 0)] := by kernel_rfl
@[go_sem] theorem ty136_fok : fieldsOk Tryz.prog 136 = true := by kernel_rfl
@[go_sem] theorem ty136_f0 : tyField Tryz.prog 136 0 = some (0, 3) := by kernel_rfl
@[go_sem] theorem ty136_f1 : tyField Tryz.prog 136 1 = some (1, 134) := by kernel_rfl
@[go_sem] theorem ty136_f2 : tyField Tryz.prog 136 2 = some (8, 3) := by kernel_rfl
@[go_sem] theorem ty136_f3 : tyField Tryz.prog 136 3 = some (9, 22) := by kernel_rfl
attribute [go_sem] Tryz.underlying136
@[go_sem] theorem ty137_size : tySize Tryz.prog 137 = some 25 := by kernel_rfl
@[go_sem] theorem ty137_agg : tyAgg Tryz.prog 137 = some true := by kernel_rfl
@[go_sem] theorem ty137_bytes : tyBytes Tryz.prog 137 = some 288 := by kernel_rfl
@[go_sem] theorem ty137_z : tyZ Tryz.prog 137 = some [.v (.int .i64 0), .v (.int .i64 0), .v (.int .i64 0), .v (.slice none 0 0), .v (.int .i64 0), .v (.int .i64 0), .v (.int .i64 0), .v (.int .i64 0), .v (.int .i64 0), .v (.int .i64 0), .v (.int .i64 0), .v (.string ByteArray.empty), .v (.slice none 0 0), .v (.int .i64 0), .v (.slice none 0 0), .v (.int .i64 0), .v (.int .i64 0), .v (.slice none 0 0), .v (.int .i64 0), .v (.int .i64 0), .v (.int .i64 0), .v (.int .i64 0), .v (.int .i64 0), .v (.bool false), .v (.slice none 0 0)] := by kernel_rfl
@[go_sem] theorem ty137_fok : fieldsOk Tryz.prog 137 = true := by kernel_rfl
@[go_sem] theorem ty137_f0 : tyField Tryz.prog 137 0 = some (0, 3) := by kernel_rfl
@[go_sem] theorem ty137_f1 : tyField Tryz.prog 137 1 = some (1, 3) := by kernel_rfl
@[go_sem] theorem ty137_f2 : tyField Tryz.prog 137 2 = some (2, 3) := by kernel_rfl
@[go_sem] theorem ty137_f3 : tyField Tryz.prog 137 3 = some (3, 68) := by kernel_rfl
@[go_sem] theorem ty137_f4 : tyField Tryz.prog 137 4 = some (4, 3) := by kernel_rfl
@[go_sem] theorem ty137_f5 : tyField Tryz.prog 137 5 = some (5, 136) := by kernel_rfl
@[go_sem] theorem ty137_f6 : tyField Tryz.prog 137 6 = some (15, 3) := by kernel_rfl
@[go_sem] theorem ty137_f7 : tyField Tryz.prog 137 7 = some (16, 3) := by kernel_rfl
@[go_sem] theorem ty137_f8 : tyField Tryz.prog 137 8 = some (17, 40) := by kernel_rfl
@[go_sem] theorem ty137_f9 : tyField Tryz.prog 137 9 = some (18, 3) := by kernel_rfl
@[go_sem] theorem ty137_f10 : tyField Tryz.prog 137 10 = some (19, 3) := by kernel_rfl
@[go_sem] theorem ty137_f11 : tyField Tryz.prog 137 11 = some (20, 3) := by kernel_rfl
@[go_sem] theorem ty137_f12 : tyField Tryz.prog 137 12 = some (21, 3) := by kernel_rfl
@[go_sem] theorem ty137_f13 : tyField Tryz.prog 137 13 = some (22, 3) := by kernel_rfl
@[go_sem] theorem ty137_f14 : tyField Tryz.prog 137 14 = some (23, 4) := by kernel_rfl
@[go_sem] theorem ty137_f15 : tyField Tryz.prog 137 15 = some (24, 37) := by kernel_rfl
attribute [go_sem] Tryz.underlying137
@[go_sem] theorem ty138_size : tySize Tryz.prog 138 = some 25 := by kernel_rfl
@[go_sem] theorem ty138_agg : tyAgg Tryz.prog 138 = some true := by kernel_rfl
@[go_sem] theorem ty138_bytes : tyBytes Tryz.prog 138 = some 288 := by kernel_rfl
@[go_sem] theorem ty138_z : tyZ Tryz.prog 138 = some [.v (.int .i64 0), .v (.int .i64 0), .v (.int .i64 0), .v (.slice none 0 0), .v (.int .i64 0), .v (.int .i64 0), .v (.int .i64 0), .v (.int .i64 0), .v (.int .i64 0), .v (.int .i64 0), .v (.int .i64 0), .v (.string ByteArray.empty), .v (.slice none 0 0), .v (.int .i64 0), .v (.slice none 0 0), .v (.int .i64 0), .v (.int .i64 0), .v (.slice none 0 0), .v (.int .i64 0), .v (.int .i64 0), .v (.int .i64 0), .v (.int .i64 0), .v (.int .i64 0), .v (.bool false), .v (.slice none 0 0)] := by kernel_rfl
@[go_sem] theorem ty138_fok : fieldsOk Tryz.prog 138 = true := by kernel_rfl
@[go_sem] theorem ty138_f0 : tyField Tryz.prog 138 0 = some (0, 3) := by kernel_rfl
@[go_sem] theorem ty138_f1 : tyField Tryz.prog 138 1 = some (1, 3) := by kernel_rfl
@[go_sem] theorem ty138_f2 : tyField Tryz.prog 138 2 = some (2, 3) := by kernel_rfl
@[go_sem] theorem ty138_f3 : tyField Tryz.prog 138 3 = some (3, 68) := by kernel_rfl
@[go_sem] theorem ty138_f4 : tyField Tryz.prog 138 4 = some (4, 3) := by kernel_rfl
@[go_sem] theorem ty138_f5 : tyField Tryz.prog 138 5 = some (5, 136) := by kernel_rfl
@[go_sem] theorem ty138_f6 : tyField Tryz.prog 138 6 = some (15, 3) := by kernel_rfl
@[go_sem] theorem ty138_f7 : tyField Tryz.prog 138 7 = some (16, 3) := by kernel_rfl
@[go_sem] theorem ty138_f8 : tyField Tryz.prog 138 8 = some (17, 40) := by kernel_rfl
@[go_sem] theorem ty138_f9 : tyField Tryz.prog 138 9 = some (18, 3) := by kernel_rfl
@[go_sem] theorem ty138_f10 : tyField Tryz.prog 138 10 = some (19, 3) := by kernel_rfl
@[go_sem] theorem ty138_f11 : tyField Tryz.prog 138 11 = some (20, 3) := by kernel_rfl
@[go_sem] theorem ty138_f12 : tyField Tryz.prog 138 12 = some (21, 3) := by kernel_rfl
@[go_sem] theorem ty138_f13 : tyField Tryz.prog 138 13 = some (22, 3) := by kernel_rfl
@[go_sem] theorem ty138_f14 : tyField Tryz.prog 138 14 = some (23, 4) := by kernel_rfl
@[go_sem] theorem ty138_f15 : tyField Tryz.prog 138 15 = some (24, 37) := by kernel_rfl
attribute [go_sem] Tryz.underlying138
@[go_sem] theorem ty140_size : tySize Tryz.prog 140 = some 6 := by kernel_rfl
@[go_sem] theorem ty140_agg : tyAgg Tryz.prog 140 = some true := by kernel_rfl
@[go_sem] theorem ty140_bytes : tyBytes Tryz.prog 140 = some 72 := by kernel_rfl
@[go_sem] theorem ty140_z : tyZ Tryz.prog 140 = some [.v (.slice none 0 0), .v (.int .i64 0), .v (.bool false), .v (.int .i64 0), .v (.int .i64 0), .v (.string ByteArray.empty)] := by kernel_rfl
@[go_sem] theorem ty140_fok : fieldsOk Tryz.prog 140 = true := by kernel_rfl
@[go_sem] theorem ty140_f0 : tyField Tryz.prog 140 0 = some (0, 37) := by kernel_rfl
@[go_sem] theorem ty140_f1 : tyField Tryz.prog 140 1 = some (1, 3) := by kernel_rfl
@[go_sem] theorem ty140_f2 : tyField Tryz.prog 140 2 = some (2, 4) := by kernel_rfl
@[go_sem] theorem ty140_f3 : tyField Tryz.prog 140 3 = some (3, 131) := by kernel_rfl
attribute [go_sem] Tryz.underlying140
@[go_sem] theorem ty141_size : tySize Tryz.prog 141 = some 6 := by kernel_rfl
@[go_sem] theorem ty141_agg : tyAgg Tryz.prog 141 = some true := by kernel_rfl
@[go_sem] theorem ty141_bytes : tyBytes Tryz.prog 141 = some 72 := by kernel_rfl
@[go_sem] theorem ty141_z : tyZ Tryz.prog 141 = some [.v (.slice none 0 0), .v (.int .i64 0), .v (.bool false), .v (.int .i64 0), .v (.int .i64 0), .v (.string ByteArray.empty)] := by kernel_rfl
@[go_sem] theorem ty141_fok : fieldsOk Tryz.prog 141 = true := by kernel_rfl
@[go_sem] theorem ty141_f0 : tyField Tryz.prog 141 0 = some (0, 37) := by kernel_rfl
@[go_sem] theorem ty141_f1 : tyField Tryz.prog 141 1 = some (1, 3) := by kernel_rfl
@[go_sem] theorem ty141_f2 : tyField Tryz.prog 141 2 = some (2, 4) := by kernel_rfl
@[go_sem] theorem ty141_f3 : tyField Tryz.prog 141 3 = some (3, 131) := by kernel_rfl
attribute [go_sem] Tryz.underlying141
@[go_sem] theorem ty142_size : tySize Tryz.prog 142 = some 25 := by kernel_rfl
@[go_sem] theorem ty142_agg : tyAgg Tryz.prog 142 = some true := by kernel_rfl
@[go_sem] theorem ty142_bytes : tyBytes Tryz.prog 142 = some 280 := by kernel_rfl
@[go_sem] theorem ty142_z : tyZ Tryz.prog 142 = some [.v (.int .i64 0), .v (.int .i64 0), .v (.slice none 0 0), .v (.int .i64 0), .v (.int .i64 0), .v (.int .i64 0), .v (.int .i64 0), .v (.int .i64 0), .v (.int .i64 0), .v (.int .i64 0), .v (.string ByteArray.empty), .v (.slice none 0 0), .v (.int .i64 0), .v (.slice none 0 0), .v (.slice none 0 0), .v (.int .i64 0), .v (.bool false), .v (.int .i64 0), .v (.int .i64 0), .v (.string ByteArray.empty), .v (.int .i64 0), .v (.int .i64 0), .v (.int .i64 0), .v (.int .i64 0), .v (.int .i64 0)] := by kernel_rfl
@[go_sem] theorem ty142_fok : fieldsOk Tryz.prog 142 = true := by kernel_rfl
@[go_sem] theorem ty142_f0 : tyField Tryz.prog 142 0 = some (0, 3) := by kernel_rfl
@[go_sem] theorem ty142_f1 : tyField Tryz.prog 142 1 = some (1, 3) := by kernel_rfl
@[go_sem] theorem ty142_f2 : tyField Tryz.prog 142 2 = some (2, 68) := by kernel_rfl
@[go_sem] theorem ty142_f3 : tyField Tryz.prog 142 3 = some (3, 3) := by kernel_rfl
@[go_sem] theorem ty142_f4 : tyField Tryz.prog 142 4 = some (4, 136) := by kernel_rfl
@[go_sem] theorem ty142_f5 : tyField Tryz.prog 142 5 = some (14, 141) := by kernel_rfl
@[go_sem] theorem ty142_f6 : tyField Tryz.prog 142 6 = some (20, 3) := by kernel_rfl
@[go_sem] theorem ty142_f7 : tyField Tryz.prog 142 7 = some (21, 3) := by kernel_rfl
@[go_sem] theorem ty142_f8 : tyField Tryz.prog 142 8 = some (22, 3) := by kernel_rfl
@[go_sem] theorem ty142_f9 : tyField Tryz.prog 142 9 = some (23, 3) := by kernel_rfl
@[go_sem] theorem ty142_f10 : tyField Tryz.prog 142 10 = some (24, 3) := by kernel_rfl
attribute [go_sem] Tryz.underlying142
@[go_sem] theorem ty143_size : tySize Tryz.prog 143 = some 25 := by kernel_rfl
@[go_sem] theorem ty143_agg : tyAgg Tryz.prog 143 = some true := by kernel_rfl
@[go_sem] theorem ty143_bytes : tyBytes Tryz.prog 143 = some 280 := by kernel_rfl
@[go_sem] theorem ty143_z : tyZ Tryz.prog 143 = some [.v (.int .i64 0), .v (.int .i64 0), .v (.slice none 0 0), .v (.int .i64 0), .v (.int .i64 0), .v (.int .i64 0), .v (.int .i64 0), .v (.int .i64 0), .v (.int .i64 0), .v (.int .i64 0), .v (.string ByteArray.empty), .v (.slice none 0 0), .v (.int .i64 0), .v (.slice none 0 0), .v (.slice none 0 0), .v (.int .i64 0), .v (.bool false), .v (.int .i64 0), .v (.int .i64 0), .v (.string ByteArray.empty), .v (.int .i64 0), .v (.int .i64 0), .v (.int .i64 0), .v (.int .i64 0), .v (.int .i64 0)] := by kernel_rfl
@[go_sem] theorem ty143_fok : fieldsOk Tryz.prog 143 = true := by kernel_rfl
@[go_sem] theorem ty143_f0 : tyField Tryz.prog 143 0 = some (0, 3) := by kernel_rfl
@[go_sem] theorem ty143_f1 : tyField Tryz.prog 143 1 = some (1, 3) := by kernel_rfl
@[go_sem] theorem ty143_f2 : tyField Tryz.prog 143 2 = some (2, 68) := by kernel_rfl
@[go_sem] theorem ty143_f3 : tyField Tryz.prog 143 3 = some (3, 3) := by kernel_rfl
@[go_sem] theorem ty143_f4 : tyField Tryz.prog 143 4 = some (4, 136) := by kernel_rfl
@[go_sem] theorem ty143_f5 : tyField Tryz.prog 143 5 = some (14, 141) := by kernel_rfl
@[go_sem] theorem ty143_f6 : tyField Tryz.prog 143 6 = some (20, 3) := by kernel_rfl
@[go_sem] theorem ty143_f7 : tyField Tryz.prog 143 7 = some (21, 3) := by kernel_rfl
@[go_sem] theorem ty143_f8 : tyField Tryz.prog 143 8 = some (22, 3) := by kernel_rfl
@[go_sem] theorem ty143_f9 : tyField Tryz.prog 143 9 = some (23, 3) := by kernel_rfl
@[go_sem] theorem ty143_f10 : tyField Tryz.prog 143 10 = some (24, 3) := by kernel_rfl
attribute [go_sem] Tryz.underlying143
@[go_sem] theorem ty162_size : tySize Tryz.prog 162 = some 5 := by kernel_rfl
@[go_sem] theorem ty162_agg : tyAgg Tryz.prog 162 = some true := by kernel_rfl
@[go_sem] theorem ty162_bytes : tyBytes Tryz.prog 162 = some 40 := by kernel_rfl
@[go_sem] theorem ty162_z : tyZ Tryz.prog 162 = some [.v (.int .i64 0), .v (.int .i64 0), .v (.int .i64 0), .v (.int .i64 0), .v (.int .i64 0)] := by kernel_rfl
@[go_sem] theorem ty162_fok : fieldsOk Tryz.prog 162 = true := by kernel_rfl
@[go_sem] theorem ty162_f0 : tyField Tryz.prog 162 0 = some (0, 3) := by kernel_rfl
@[go_sem] theorem ty162_f1 : tyField Tryz.prog 162 1 = some (1, 3) := by kernel_rfl
@[go_sem] theorem ty162_f2 : tyField Tryz.prog 162 2 = some (2, 3) := by kernel_rfl
@[go_sem] theorem ty162_f3 : tyField Tryz.prog 162 3 = some (3, 3) := by kernel_rfl
@[go_sem] theorem ty162_f4 : tyField Tryz.prog 162 4 = some (4, 3) := by kernel_rfl
attribute [go_sem] Tryz.underlying162
@[go_sem] theorem ty163_size : tySize Tryz.prog 163 = some 5 := by kernel_rfl
@[go_sem] theorem ty163_agg : tyAgg Tryz.prog 163 = some true := by kernel_rfl
@[go_sem] theorem ty163_bytes : tyBytes Tryz.prog 163 = some 40 := by kernel_rfl
@[go_sem] theorem ty163_z : tyZ Tryz.prog 163 = some [.v (.int .i64 0), .v (.int .i64 0), .v (.int .i64 0), .v (.int .i64 0), .v (.int .i64 0)] := by kernel_rfl
@[go_sem] theorem ty163_fok : fieldsOk Tryz.prog 163 = true := by kernel_rfl
@[go_sem] theorem ty163_f0 : tyField Tryz.prog 163 0 = some (0, 3) := by kernel_rfl
@[go_sem] theorem ty163_f1 : tyField Tryz.prog 163 1 = some (1, 3) := by kernel_rfl
@[go_sem] theorem ty163_f2 : tyField Tryz.prog 163 2 = some (2, 3) := by kernel_rfl
@[go_sem] theorem ty163_f3 : tyField Tryz.prog 163 3 = some (3, 3) := by kernel_rfl
@[go_sem] theorem ty163_f4 : tyField Tryz.prog 163 4 = some (4, 3) := by kernel_rfl
attribute [go_sem] Tryz.underlying163
@[go_sem] theorem ty165_size : tySize Tryz.prog 165 = some 5 := by kernel_rfl
@[go_sem] theorem ty165_agg : tyAgg Tryz.prog 165 = some true := by kernel_rfl
@[go_sem] theorem ty165_bytes : tyBytes Tryz.prog 165 = some 40 := by kernel_rfl
@[go_sem] theorem ty165_z : tyZ Tryz.prog 165 = some [.v (.int .i64 0), .v (.int .i64 0), .v (.int .i64 0), .v (.int .i64 0), .v (.int .i64 0)] := by kernel_rfl
@[go_sem] theorem ty165_fok : fieldsOk Tryz.prog 165 = true := by kernel_rfl
@[go_sem] theorem ty165_f0 : tyField Tryz.prog 165 0 = some (0, 3) := by kernel_rfl
@[go_sem] theorem ty165_f1 : tyField Tryz.prog 165 1 = some (1, 3) := by kernel_rfl
@[go_sem] theorem ty165_f2 : tyField Tryz.prog 165 2 = some (2, 3) := by kernel_rfl
@[go_sem] theorem ty165_f3 : tyField Tryz.prog 165 3 = some (3, 3) := by kernel_rfl
@[go_sem] theorem ty165_f4 : tyField Tryz.prog 165 4 = some (4, 3) := by kernel_rfl
attribute [go_sem] Tryz.underlying165
@[go_sem] theorem ty177_size : tySize Tryz.prog 177 = some 2 := by kernel_rfl
@[go_sem] theorem ty177_agg : tyAgg Tryz.prog 177 = some true := by kernel_rfl
@[go_sem] theorem ty177_bytes : tyBytes Tryz.prog 177 = some 32 := by kernel_rfl
@[go_sem] theorem ty177_z : tyZ Tryz.prog 177 = some [.v (.int .i64 0), .v (.slice none 0 0)] := by kernel_rfl
@[go_sem] theorem ty177_fok : fieldsOk Tryz.prog 177 = true := by kernel_rfl
@[go_sem] theorem ty177_f0 : tyField Tryz.prog 177 0 = some (0, 3) := by kernel_rfl
@[go_sem] theorem ty177_f1 : tyField Tryz.prog 177 1 = some (1, 68) := by kernel_rfl
attribute [go_sem] Tryz.underlying177
@[go_sem] theorem ty178_size : tySize Tryz.prog 178 = some 2 := by kernel_rfl
@[go_sem] theorem ty178_agg : tyAgg Tryz.prog 178 = some true := by kernel_rfl
@[go_sem] theorem ty178_bytes : tyBytes Tryz.prog 178 = some 32 := by kernel_rfl
@[go_sem] theorem ty178_z : tyZ Tryz.prog 178 = some [.v (.int .i64 0), .v (.slice none 0 0)] := by kernel_rfl
@[go_sem] theorem ty178_fok : fieldsOk Tryz.prog 178 = true := by kernel_rfl
@[go_sem] theorem ty178_f0 : tyField Tryz.prog 178 0 = some (0, 3) := by kernel_rfl
@[go_sem] theorem ty178_f1 : tyField Tryz.prog 178 1 = some (1, 68) := by kernel_rfl
attribute [go_sem] Tryz.underlying178
@[go_sem] theorem ty186_size : tySize Tryz.prog 186 = some 2 := by kernel_rfl
@[go_sem] theorem ty186_agg : tyAgg Tryz.prog 186 = some true := by kernel_rfl
@[go_sem] theorem ty186_bytes : tyBytes Tryz.prog 186 = some 32 := by kernel_rfl
@[go_sem] theorem ty186_z : tyZ Tryz.prog 186 = some [.v (.int .i64 0), .v (.slice none 0 0)] := by kernel_rfl
@[go_sem] theorem ty186_fok : fieldsOk Tryz.prog 186 = true := by kernel_rfl
@[go_sem] theorem ty186_f0 : tyField Tryz.prog 186 0 = some (0, 3) := by kernel_rfl
@[go_sem] theorem ty186_f1 : tyField Tryz.prog 186 1 = some (1, 64) := by kernel_rfl
attribute [go_sem] Tryz.underlying186
@[go_sem] theorem ty187_size : tySize Tryz.prog 187 = some 2 := by kernel_rfl
@[go_sem] theorem ty187_agg : tyAgg Tryz.prog 187 = some true := by kernel_rfl
@[go_sem] theorem ty187_bytes : tyBytes Tryz.prog 187 = some 32 := by kernel_rfl
@[go_sem] theorem ty187_z : tyZ Tryz.prog 187 = some [.v (.int .i64 0), .v (.slice none 0 0)] := by kernel_rfl
@[go_sem] theorem ty187_fok : fieldsOk Tryz.prog 187 = true := by kernel_rfl
@[go_sem] theorem ty187_f0 : tyField Tryz.prog 187 0 = some (0, 3) := by kernel_rfl
@[go_sem] theorem ty187_f1 : tyField Tryz.prog 187 1 = some (1, 64) := by kernel_rfl
attribute [go_sem] Tryz.underlying187
@[go_sem] theorem ty194_size : tySize Tryz.prog 194 = some 4 := by kernel_rfl
@[go_sem] theorem ty194_agg : tyAgg Tryz.prog 194 = some true := by kernel_rfl
@[go_sem] theorem ty194_bytes : tyBytes Tryz.prog 194 = some 40 := by kernel_rfl
@[go_sem] theorem ty194_z : tyZ Tryz.prog 194 = some [.v (.pointer none), .v (.pointer none), .v (.pointer none), .v (.string ByteArray.empty)] := by kernel_rfl
@[go_sem] theorem ty194_fok : fieldsOk Tryz.prog 194 = true := by kernel_rfl
@[go_sem] theorem ty194_f0 : tyField Tryz.prog 194 0 = some (0, 17) := by kernel_rfl
@[go_sem] theorem ty194_f1 : tyField Tryz.prog 194 1 = some (1, 17) := by kernel_rfl
@[go_sem] theorem ty194_f2 : tyField Tryz.prog 194 2 = some (2, 17) := by kernel_rfl
@[go_sem] theorem ty194_f3 : tyField Tryz.prog 194 3 = some (3, 9) := by kernel_rfl
attribute [go_sem] Tryz.underlying194
@[go_sem] theorem ty196_size : tySize Tryz.prog 196 = some 0 := by kernel_rfl
@[go_sem] theorem ty196_agg : tyAgg Tryz.prog 196 = some true := by kernel_rfl
@[go_sem] theorem ty196_bytes : tyBytes Tryz.prog 196 = some 0 := by kernel_rfl
@[go_sem] theorem ty196_z : tyZ Tryz.prog 196 = some [] := by kernel_rfl
attribute [go_sem] Tryz.underlying196
@[go_sem] theorem ty197_size : tySize Tryz.prog 197 = some 0 := by kernel_rfl
@[go_sem] theorem ty197_agg : tyAgg Tryz.prog 197 = some true := by kernel_rfl
@[go_sem] theorem ty197_bytes : tyBytes Tryz.prog 197 = some 0 := by kernel_rfl
@[go_sem] theorem ty197_z : tyZ Tryz.prog 197 = some [] := by kernel_rfl
@[go_sem] theorem ty197_fok : fieldsOk Tryz.prog 197 = true := by kernel_rfl
@[go_sem] theorem ty197_f0 : tyField Tryz.prog 197 0 = some (0, 196) := by kernel_rfl
attribute [go_sem] Tryz.underlying197
@[go_sem] theorem ty200_size : tySize Tryz.prog 200 = some 1 := by kernel_rfl
@[go_sem] theorem ty200_agg : tyAgg Tryz.prog 200 = some false := by kernel_rfl
@[go_sem] theorem ty200_bytes : tyBytes Tryz.prog 200 = some 4 := by kernel_rfl
@[go_sem] theorem ty200_z : tyZ Tryz.prog 200 = some [.v (.int .u32 0)] := by kernel_rfl
attribute [go_sem] Tryz.underlying200
@[go_sem] theorem ty207_size : tySize Tryz.prog 207 = some 11 := by kernel_rfl
@[go_sem] theorem ty207_agg : tyAgg Tryz.prog 207 = some true := by kernel_rfl
@[go_sem] theorem ty207_bytes : tyBytes Tryz.prog 207 = some 48 := by kernel_rfl
@[go_sem] theorem ty207_z : tyZ Tryz.prog 207 = some [.v (.int .u64 0), .v (.int .u64 0), .v (.int .u32 0), .v (.int .u8 0), .v (.int .u8 0), .v (.int .u8 0), .v (.int .u8 0), .v (.nilFunc), .v (.pointer none), .v (.int .i32 0), .v (.int .i32 0)] := by kernel_rfl
@[go_sem] theorem ty207_fok : fieldsOk Tryz.prog 207 = true := by kernel_rfl
@[go_sem] theorem ty207_f0 : tyField Tryz.prog 207 0 = some (0, 12) := by kernel_rfl
@[go_sem] theorem ty207_f1 : tyField Tryz.prog 207 1 = some (1, 12) := by kernel_rfl
@[go_sem] theorem ty207_f2 : tyField Tryz.prog 207 2 = some (2, 200) := by kernel_rfl
@[go_sem] theorem ty207_f3 : tyField Tryz.prog 207 3 = some (3, 201) := by kernel_rfl
@[go_sem] theorem ty207_f4 : tyField Tryz.prog 207 4 = some (4, 5) := by kernel_rfl
@[go_sem] theorem ty207_f5 : tyField Tryz.prog 207 5 = some (5, 5) := by kernel_rfl
@[go_sem] theorem ty207_f6 : tyField Tryz.prog 207 6 = some (6, 202) := by kernel_rfl
@[go_sem] theorem ty207_f7 : tyField Tryz.prog 207 7 = some (7, 203) := by kernel_rfl
@[go_sem] theorem ty207_f8 : tyField Tryz.prog 207 8 = some (8, 204) := by kernel_rfl
@[go_sem] theorem ty207_f9 : tyField Tryz.prog 207 9 = some (9, 205) := by kernel_rfl
@[go_sem] theorem ty207_f10 : tyField Tryz.prog 207 10 = some (10, 206) := by kernel_rfl
attribute [go_sem] Tryz.underlying207
@[go_sem] theorem ty209_size : tySize Tryz.prog 209 = some 1 := by kernel_rfl
@[go_sem] theorem ty209_agg : tyAgg Tryz.prog 209 = some false := by kernel_rfl
@[go_sem] theorem ty209_bytes : tyBytes Tryz.prog 209 = some 8 := by kernel_rfl
@[go_sem] theorem ty209_z : tyZ Tryz.prog 209 = some [.v (.pointer none)] := by kernel_rfl
attribute [go_sem] Tryz.underlying209
end Go.Proofs.YtekkkcelnaomoaaGreat
