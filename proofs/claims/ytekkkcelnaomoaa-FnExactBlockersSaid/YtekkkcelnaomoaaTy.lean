/- Facts on the types of this seat, by program (gen_ty.py). -/
import Derived.Test.YtekkkcelnaomoaaVmU
import Derived.Test.YtekkkcelnaomoaaRows
namespace Go.Proofs.Ytekkkcelnaomoaa
set_option linter.unusedSimpArgs false
set_option linter.unusedVariables false
open Go.Vm

theorem mixed : Try.prog.follows .mixedOrders = true := by kernel_rfl
@[go_sem] theorem ty2_size : tySize Try.prog 2 = some 1 := by kernel_rfl
@[go_sem] theorem ty2_agg : tyAgg Try.prog 2 = some false := by kernel_rfl
@[go_sem] theorem ty2_bytes : tyBytes Try.prog 2 = some 8 := by kernel_rfl
@[go_sem] theorem ty2_z : tyZ Try.prog 2 = some [.v (.int .i64 0)] := by kernel_rfl
attribute [go_sem] Try.underlying2
@[go_sem] theorem ty3_size : tySize Try.prog 3 = some 1 := by kernel_rfl
@[go_sem] theorem ty3_agg : tyAgg Try.prog 3 = some false := by kernel_rfl
@[go_sem] theorem ty3_bytes : tyBytes Try.prog 3 = some 8 := by kernel_rfl
@[go_sem] theorem ty3_z : tyZ Try.prog 3 = some [.v (.int .i64 0)] := by kernel_rfl
attribute [go_sem] Try.underlying3
@[go_sem] theorem ty4_size : tySize Try.prog 4 = some 1 := by kernel_rfl
@[go_sem] theorem ty4_agg : tyAgg Try.prog 4 = some false := by kernel_rfl
@[go_sem] theorem ty4_bytes : tyBytes Try.prog 4 = some 1 := by kernel_rfl
@[go_sem] theorem ty4_z : tyZ Try.prog 4 = some [.v (.bool false)] := by kernel_rfl
attribute [go_sem] Try.underlying4
@[go_sem] theorem ty5_size : tySize Try.prog 5 = some 1 := by kernel_rfl
@[go_sem] theorem ty5_agg : tyAgg Try.prog 5 = some false := by kernel_rfl
@[go_sem] theorem ty5_bytes : tyBytes Try.prog 5 = some 1 := by kernel_rfl
@[go_sem] theorem ty5_z : tyZ Try.prog 5 = some [.v (.int .u8 0)] := by kernel_rfl
attribute [go_sem] Try.underlying5
@[go_sem] theorem ty7_size : tySize Try.prog 7 = some 4 := by kernel_rfl
@[go_sem] theorem ty7_agg : tyAgg Try.prog 7 = some true := by kernel_rfl
@[go_sem] theorem ty7_bytes : tyBytes Try.prog 7 = some 24 := by kernel_rfl
@[go_sem] theorem ty7_z : tyZ Try.prog 7 = some [.v (.int .i64 0), .v (.int .i64 0), .v (.bool false), .v (.int .u8 0)] := by kernel_rfl
@[go_sem] theorem ty7_fok : fieldsOk Try.prog 7 = true := by kernel_rfl
@[go_sem] theorem ty7_f0 : tyField Try.prog 7 0 = some (0, 2) := by kernel_rfl
@[go_sem] theorem ty7_f1 : tyField Try.prog 7 1 = some (1, 3) := by kernel_rfl
@[go_sem] theorem ty7_f2 : tyField Try.prog 7 2 = some (2, 4) := by kernel_rfl
@[go_sem] theorem ty7_f3 : tyField Try.prog 7 3 = some (3, 6) := by kernel_rfl
attribute [go_sem] Try.underlying7
@[go_sem] theorem ty9_size : tySize Try.prog 9 = some 1 := by kernel_rfl
@[go_sem] theorem ty9_agg : tyAgg Try.prog 9 = some false := by kernel_rfl
@[go_sem] theorem ty9_bytes : tyBytes Try.prog 9 = some 16 := by kernel_rfl
@[go_sem] theorem ty9_z : tyZ Try.prog 9 = some [.v (.string ByteArray.empty)] := by kernel_rfl
attribute [go_sem] Try.underlying9
@[go_sem] theorem ty12_size : tySize Try.prog 12 = some 1 := by kernel_rfl
@[go_sem] theorem ty12_agg : tyAgg Try.prog 12 = some false := by kernel_rfl
@[go_sem] theorem ty12_bytes : tyBytes Try.prog 12 = some 8 := by kernel_rfl
@[go_sem] theorem ty12_z : tyZ Try.prog 12 = some [.v (.int .u64 0)] := by kernel_rfl
attribute [go_sem] Try.underlying12
@[go_sem] theorem ty13_size : tySize Try.prog 13 = some 2 := by kernel_rfl
@[go_sem] theorem ty13_agg : tyAgg Try.prog 13 = some true := by kernel_rfl
@[go_sem] theorem ty13_bytes : tyBytes Try.prog 13 = some 24 := by kernel_rfl
@[go_sem] theorem ty13_z : tyZ Try.prog 13 = some [.v (.string ByteArray.empty), .v (.int .u64 0)] := by kernel_rfl
@[go_sem] theorem ty13_fok : fieldsOk Try.prog 13 = true := by kernel_rfl
@[go_sem] theorem ty13_f0 : tyField Try.prog 13 0 = some (0, 9) := by kernel_rfl
@[go_sem] theorem ty13_f1 : tyField Try.prog 13 1 = some (1, 12) := by kernel_rfl
attribute [go_sem] Try.underlying13
@[go_sem] theorem ty18_size : tySize Try.prog 18 = some 1 := by kernel_rfl
@[go_sem] theorem ty18_agg : tyAgg Try.prog 18 = some true := by kernel_rfl
@[go_sem] theorem ty18_bytes : tyBytes Try.prog 18 = some 8 := by kernel_rfl
@[go_sem] theorem ty18_z : tyZ Try.prog 18 = some [.v (.pointer none)] := by kernel_rfl
@[go_sem] theorem ty18_fok : fieldsOk Try.prog 18 = true := by kernel_rfl
@[go_sem] theorem ty18_f0 : tyField Try.prog 18 0 = some (0, 17) := by kernel_rfl
attribute [go_sem] Try.underlying18
@[go_sem] theorem ty21_size : tySize Try.prog 21 = some 1 := by kernel_rfl
@[go_sem] theorem ty21_agg : tyAgg Try.prog 21 = some false := by kernel_rfl
@[go_sem] theorem ty21_bytes : tyBytes Try.prog 21 = some 4 := by kernel_rfl
@[go_sem] theorem ty21_z : tyZ Try.prog 21 = some [.v (.int .i32 0)] := by kernel_rfl
attribute [go_sem] Try.underlying21
@[go_sem] theorem ty22_size : tySize Try.prog 22 = some 1 := by kernel_rfl
@[go_sem] theorem ty22_agg : tyAgg Try.prog 22 = some false := by kernel_rfl
@[go_sem] theorem ty22_bytes : tyBytes Try.prog 22 = some 24 := by kernel_rfl
@[go_sem] theorem ty22_z : tyZ Try.prog 22 = some [.v (.slice none 0 0)] := by kernel_rfl
@[go_sem] theorem ty22_elem : tyElem Try.prog 22 = some 3 := by kernel_rfl
attribute [go_sem] Try.underlying22
@[go_sem] theorem ty23_size : tySize Try.prog 23 = some 3 := by kernel_rfl
@[go_sem] theorem ty23_agg : tyAgg Try.prog 23 = some true := by kernel_rfl
@[go_sem] theorem ty23_bytes : tyBytes Try.prog 23 = some 40 := by kernel_rfl
@[go_sem] theorem ty23_z : tyZ Try.prog 23 = some [.v (.slice none 0 0), .v (.int .i64 0), .v (.int .i64 0)] := by kernel_rfl
@[go_sem] theorem ty23_fok : fieldsOk Try.prog 23 = true := by kernel_rfl
@[go_sem] theorem ty23_f0 : tyField Try.prog 23 0 = some (0, 22) := by kernel_rfl
@[go_sem] theorem ty23_f1 : tyField Try.prog 23 1 = some (1, 3) := by kernel_rfl
@[go_sem] theorem ty23_f2 : tyField Try.prog 23 2 = some (2, 3) := by kernel_rfl
attribute [go_sem] Try.underlying23
@[go_sem] theorem ty24_size : tySize Try.prog 24 = some 3 := by kernel_rfl
@[go_sem] theorem ty24_agg : tyAgg Try.prog 24 = some true := by kernel_rfl
@[go_sem] theorem ty24_bytes : tyBytes Try.prog 24 = some 40 := by kernel_rfl
@[go_sem] theorem ty24_z : tyZ Try.prog 24 = some [.v (.slice none 0 0), .v (.int .i64 0), .v (.int .i64 0)] := by kernel_rfl
@[go_sem] theorem ty24_fok : fieldsOk Try.prog 24 = true := by kernel_rfl
@[go_sem] theorem ty24_f0 : tyField Try.prog 24 0 = some (0, 22) := by kernel_rfl
@[go_sem] theorem ty24_f1 : tyField Try.prog 24 1 = some (1, 3) := by kernel_rfl
@[go_sem] theorem ty24_f2 : tyField Try.prog 24 2 = some (2, 3) := by kernel_rfl
attribute [go_sem] Try.underlying24
@[go_sem] theorem ty25_size : tySize Try.prog 25 = some 1 := by kernel_rfl
@[go_sem] theorem ty25_agg : tyAgg Try.prog 25 = some false := by kernel_rfl
@[go_sem] theorem ty25_bytes : tyBytes Try.prog 25 = some 24 := by kernel_rfl
@[go_sem] theorem ty25_z : tyZ Try.prog 25 = some [.v (.slice none 0 0)] := by kernel_rfl
@[go_sem] theorem ty25_elem : tyElem Try.prog 25 = some 149 := by kernel_rfl
attribute [go_sem] Try.underlying25
@[go_sem] theorem ty26_size : tySize Try.prog 26 = some 2 := by kernel_rfl
@[go_sem] theorem ty26_agg : tyAgg Try.prog 26 = some true := by kernel_rfl
@[go_sem] theorem ty26_bytes : tyBytes Try.prog 26 = some 32 := by kernel_rfl
@[go_sem] theorem ty26_z : tyZ Try.prog 26 = some [.v (.int .i64 0), .v (.slice none 0 0)] := by kernel_rfl
@[go_sem] theorem ty26_fok : fieldsOk Try.prog 26 = true := by kernel_rfl
@[go_sem] theorem ty26_f0 : tyField Try.prog 26 0 = some (0, 3) := by kernel_rfl
@[go_sem] theorem ty26_f1 : tyField Try.prog 26 1 = some (1, 25) := by kernel_rfl
attribute [go_sem] Try.underlying26
@[go_sem] theorem ty27_size : tySize Try.prog 27 = some 2 := by kernel_rfl
@[go_sem] theorem ty27_agg : tyAgg Try.prog 27 = some true := by kernel_rfl
@[go_sem] theorem ty27_bytes : tyBytes Try.prog 27 = some 32 := by kernel_rfl
@[go_sem] theorem ty27_z : tyZ Try.prog 27 = some [.v (.int .i64 0), .v (.slice none 0 0)] := by kernel_rfl
@[go_sem] theorem ty27_fok : fieldsOk Try.prog 27 = true := by kernel_rfl
@[go_sem] theorem ty27_f0 : tyField Try.prog 27 0 = some (0, 3) := by kernel_rfl
@[go_sem] theorem ty27_f1 : tyField Try.prog 27 1 = some (1, 25) := by kernel_rfl
attribute [go_sem] Try.underlying27
@[go_sem] theorem ty28_size : tySize Try.prog 28 = some 1 := by kernel_rfl
@[go_sem] theorem ty28_agg : tyAgg Try.prog 28 = some false := by kernel_rfl
@[go_sem] theorem ty28_bytes : tyBytes Try.prog 28 = some 24 := by kernel_rfl
@[go_sem] theorem ty28_z : tyZ Try.prog 28 = some [.v (.slice none 0 0)] := by kernel_rfl
@[go_sem] theorem ty28_elem : tyElem Try.prog 28 = some 84 := by kernel_rfl
attribute [go_sem] Try.underlying28
@[go_sem] theorem ty29_size : tySize Try.prog 29 = some 1 := by kernel_rfl
@[go_sem] theorem ty29_agg : tyAgg Try.prog 29 = some false := by kernel_rfl
@[go_sem] theorem ty29_bytes : tyBytes Try.prog 29 = some 24 := by kernel_rfl
@[go_sem] theorem ty29_z : tyZ Try.prog 29 = some [.v (.slice none 0 0)] := by kernel_rfl
@[go_sem] theorem ty29_elem : tyElem Try.prog 29 = some 112 := by kernel_rfl
attribute [go_sem] Try.underlying29
@[go_sem] theorem ty30_size : tySize Try.prog 30 = some 1 := by kernel_rfl
@[go_sem] theorem ty30_agg : tyAgg Try.prog 30 = some false := by kernel_rfl
@[go_sem] theorem ty30_bytes : tyBytes Try.prog 30 = some 24 := by kernel_rfl
@[go_sem] theorem ty30_z : tyZ Try.prog 30 = some [.v (.slice none 0 0)] := by kernel_rfl
@[go_sem] theorem ty30_elem : tyElem Try.prog 30 = some 96 := by kernel_rfl
attribute [go_sem] Try.underlying30
@[go_sem] theorem ty31_size : tySize Try.prog 31 = some 1 := by kernel_rfl
@[go_sem] theorem ty31_agg : tyAgg Try.prog 31 = some false := by kernel_rfl
@[go_sem] theorem ty31_bytes : tyBytes Try.prog 31 = some 24 := by kernel_rfl
@[go_sem] theorem ty31_z : tyZ Try.prog 31 = some [.v (.slice none 0 0)] := by kernel_rfl
@[go_sem] theorem ty31_elem : tyElem Try.prog 31 = some 101 := by kernel_rfl
attribute [go_sem] Try.underlying31
@[go_sem] theorem ty32_size : tySize Try.prog 32 = some 14 := by kernel_rfl
@[go_sem] theorem ty32_agg : tyAgg Try.prog 32 = some true := by kernel_rfl
@[go_sem] theorem ty32_bytes : tyBytes Try.prog 32 = some 240 := by kernel_rfl
@[go_sem] theorem ty32_z : tyZ Try.prog 32 = some [.v (.slice none 0 0), .v (.int .i64 0), .v (.int .i64 0), .v (.int .i64 0), .v (.int .i64 0), .v (.int .i64 0), .v (.int .i64 0), .v (.slice none 0 0), .v (.slice none 0 0), .v (.slice none 0 0), .v (.slice none 0 0), .v (.slice none 0 0), .v (.slice none 0 0), .v (.slice none 0 0)] := by kernel_rfl
@[go_sem] theorem ty32_fok : fieldsOk Try.prog 32 = true := by kernel_rfl
@[go_sem] theorem ty32_f0 : tyField Try.prog 32 0 = some (0, 24) := by kernel_rfl
@[go_sem] theorem ty32_f1 : tyField Try.prog 32 1 = some (3, 3) := by kernel_rfl
@[go_sem] theorem ty32_f2 : tyField Try.prog 32 2 = some (4, 3) := by kernel_rfl
@[go_sem] theorem ty32_f3 : tyField Try.prog 32 3 = some (5, 3) := by kernel_rfl
@[go_sem] theorem ty32_f4 : tyField Try.prog 32 4 = some (6, 27) := by kernel_rfl
@[go_sem] theorem ty32_f5 : tyField Try.prog 32 5 = some (8, 28) := by kernel_rfl
@[go_sem] theorem ty32_f6 : tyField Try.prog 32 6 = some (9, 22) := by kernel_rfl
@[go_sem] theorem ty32_f7 : tyField Try.prog 32 7 = some (10, 29) := by kernel_rfl
@[go_sem] theorem ty32_f8 : tyField Try.prog 32 8 = some (11, 22) := by kernel_rfl
@[go_sem] theorem ty32_f9 : tyField Try.prog 32 9 = some (12, 30) := by kernel_rfl
@[go_sem] theorem ty32_f10 : tyField Try.prog 32 10 = some (13, 31) := by kernel_rfl
attribute [go_sem] Try.underlying32
@[go_sem] theorem ty33_size : tySize Try.prog 33 = some 14 := by kernel_rfl
@[go_sem] theorem ty33_agg : tyAgg Try.prog 33 = some true := by kernel_rfl
@[go_sem] theorem ty33_bytes : tyBytes Try.prog 33 = some 240 := by kernel_rfl
@[go_sem] theorem ty33_z : tyZ Try.prog 33 = some [.v (.slice none 0 0), .v (.int .i64 0), .v (.int .i64 0), .v (.int .i64 0), .v (.int .i64 0), .v (.int .i64 0), .v (.int .i64 0), .v (.slice none 0 0), .v (.slice none 0 0), .v (.slice none 0 0), .v (.slice none 0 0), .v (.slice none 0 0), .v (.slice none 0 0), .v (.slice none 0 0)] := by kernel_rfl
@[go_sem] theorem ty33_fok : fieldsOk Try.prog 33 = true := by kernel_rfl
@[go_sem] theorem ty33_f0 : tyField Try.prog 33 0 = some (0, 24) := by kernel_rfl
@[go_sem] theorem ty33_f1 : tyField Try.prog 33 1 = some (3, 3) := by kernel_rfl
@[go_sem] theorem ty33_f2 : tyField Try.prog 33 2 = some (4, 3) := by kernel_rfl
@[go_sem] theorem ty33_f3 : tyField Try.prog 33 3 = some (5, 3) := by kernel_rfl
@[go_sem] theorem ty33_f4 : tyField Try.prog 33 4 = some (6, 27) := by kernel_rfl
@[go_sem] theorem ty33_f5 : tyField Try.prog 33 5 = some (8, 28) := by kernel_rfl
@[go_sem] theorem ty33_f6 : tyField Try.prog 33 6 = some (9, 22) := by kernel_rfl
@[go_sem] theorem ty33_f7 : tyField Try.prog 33 7 = some (10, 29) := by kernel_rfl
@[go_sem] theorem ty33_f8 : tyField Try.prog 33 8 = some (11, 22) := by kernel_rfl
@[go_sem] theorem ty33_f9 : tyField Try.prog 33 9 = some (12, 30) := by kernel_rfl
@[go_sem] theorem ty33_f10 : tyField Try.prog 33 10 = some (13, 31) := by kernel_rfl
attribute [go_sem] Try.underlying33
@[go_sem] theorem ty36_size : tySize Try.prog 36 = some 3 := by kernel_rfl
@[go_sem] theorem ty36_agg : tyAgg Try.prog 36 = some true := by kernel_rfl
@[go_sem] theorem ty36_bytes : tyBytes Try.prog 36 = some 40 := by kernel_rfl
@[go_sem] theorem ty36_z : tyZ Try.prog 36 = some [.v (.slice none 0 0), .v (.int .i64 0), .v (.int .i64 0)] := by kernel_rfl
@[go_sem] theorem ty36_fok : fieldsOk Try.prog 36 = true := by kernel_rfl
@[go_sem] theorem ty36_f0 : tyField Try.prog 36 0 = some (0, 22) := by kernel_rfl
@[go_sem] theorem ty36_f1 : tyField Try.prog 36 1 = some (1, 3) := by kernel_rfl
@[go_sem] theorem ty36_f2 : tyField Try.prog 36 2 = some (2, 3) := by kernel_rfl
attribute [go_sem] Try.underlying36
@[go_sem] theorem ty37_size : tySize Try.prog 37 = some 1 := by kernel_rfl
@[go_sem] theorem ty37_agg : tyAgg Try.prog 37 = some false := by kernel_rfl
@[go_sem] theorem ty37_bytes : tyBytes Try.prog 37 = some 24 := by kernel_rfl
@[go_sem] theorem ty37_z : tyZ Try.prog 37 = some [.v (.slice none 0 0)] := by kernel_rfl
@[go_sem] theorem ty37_elem : tyElem Try.prog 37 = some 147 := by kernel_rfl
attribute [go_sem] Try.underlying37
@[go_sem] theorem ty38_size : tySize Try.prog 38 = some 2 := by kernel_rfl
@[go_sem] theorem ty38_agg : tyAgg Try.prog 38 = some true := by kernel_rfl
@[go_sem] theorem ty38_bytes : tyBytes Try.prog 38 = some 32 := by kernel_rfl
@[go_sem] theorem ty38_z : tyZ Try.prog 38 = some [.v (.int .i64 0), .v (.slice none 0 0)] := by kernel_rfl
@[go_sem] theorem ty38_fok : fieldsOk Try.prog 38 = true := by kernel_rfl
@[go_sem] theorem ty38_f0 : tyField Try.prog 38 0 = some (0, 3) := by kernel_rfl
@[go_sem] theorem ty38_f1 : tyField Try.prog 38 1 = some (1, 37) := by kernel_rfl
attribute [go_sem] Try.underlying38
@[go_sem] theorem ty39_size : tySize Try.prog 39 = some 2 := by kernel_rfl
@[go_sem] theorem ty39_agg : tyAgg Try.prog 39 = some true := by kernel_rfl
@[go_sem] theorem ty39_bytes : tyBytes Try.prog 39 = some 32 := by kernel_rfl
@[go_sem] theorem ty39_z : tyZ Try.prog 39 = some [.v (.int .i64 0), .v (.slice none 0 0)] := by kernel_rfl
@[go_sem] theorem ty39_fok : fieldsOk Try.prog 39 = true := by kernel_rfl
@[go_sem] theorem ty39_f0 : tyField Try.prog 39 0 = some (0, 3) := by kernel_rfl
@[go_sem] theorem ty39_f1 : tyField Try.prog 39 1 = some (1, 37) := by kernel_rfl
attribute [go_sem] Try.underlying39
@[go_sem] theorem ty40_size : tySize Try.prog 40 = some 1 := by kernel_rfl
@[go_sem] theorem ty40_agg : tyAgg Try.prog 40 = some false := by kernel_rfl
@[go_sem] theorem ty40_bytes : tyBytes Try.prog 40 = some 24 := by kernel_rfl
@[go_sem] theorem ty40_z : tyZ Try.prog 40 = some [.v (.slice none 0 0)] := by kernel_rfl
@[go_sem] theorem ty40_elem : tyElem Try.prog 40 = some 107 := by kernel_rfl
attribute [go_sem] Try.underlying40
@[go_sem] theorem ty41_size : tySize Try.prog 41 = some 1 := by kernel_rfl
@[go_sem] theorem ty41_agg : tyAgg Try.prog 41 = some false := by kernel_rfl
@[go_sem] theorem ty41_bytes : tyBytes Try.prog 41 = some 24 := by kernel_rfl
@[go_sem] theorem ty41_z : tyZ Try.prog 41 = some [.v (.slice none 0 0)] := by kernel_rfl
@[go_sem] theorem ty41_elem : tyElem Try.prog 41 = some 110 := by kernel_rfl
attribute [go_sem] Try.underlying41
@[go_sem] theorem ty42_size : tySize Try.prog 42 = some 1 := by kernel_rfl
@[go_sem] theorem ty42_agg : tyAgg Try.prog 42 = some false := by kernel_rfl
@[go_sem] theorem ty42_bytes : tyBytes Try.prog 42 = some 24 := by kernel_rfl
@[go_sem] theorem ty42_z : tyZ Try.prog 42 = some [.v (.slice none 0 0)] := by kernel_rfl
@[go_sem] theorem ty42_elem : tyElem Try.prog 42 = some 122 := by kernel_rfl
attribute [go_sem] Try.underlying42
@[go_sem] theorem ty43_size : tySize Try.prog 43 = some 1 := by kernel_rfl
@[go_sem] theorem ty43_agg : tyAgg Try.prog 43 = some false := by kernel_rfl
@[go_sem] theorem ty43_bytes : tyBytes Try.prog 43 = some 24 := by kernel_rfl
@[go_sem] theorem ty43_z : tyZ Try.prog 43 = some [.v (.slice none 0 0)] := by kernel_rfl
@[go_sem] theorem ty43_elem : tyElem Try.prog 43 = some 127 := by kernel_rfl
attribute [go_sem] Try.underlying43
@[go_sem] theorem ty44_size : tySize Try.prog 44 = some 14 := by kernel_rfl
@[go_sem] theorem ty44_agg : tyAgg Try.prog 44 = some true := by kernel_rfl
@[go_sem] theorem ty44_bytes : tyBytes Try.prog 44 = some 240 := by kernel_rfl
@[go_sem] theorem ty44_z : tyZ Try.prog 44 = some [.v (.slice none 0 0), .v (.int .i64 0), .v (.int .i64 0), .v (.int .i64 0), .v (.int .i64 0), .v (.int .i64 0), .v (.int .i64 0), .v (.slice none 0 0), .v (.slice none 0 0), .v (.slice none 0 0), .v (.slice none 0 0), .v (.slice none 0 0), .v (.slice none 0 0), .v (.slice none 0 0)] := by kernel_rfl
@[go_sem] theorem ty44_fok : fieldsOk Try.prog 44 = true := by kernel_rfl
@[go_sem] theorem ty44_f0 : tyField Try.prog 44 0 = some (0, 36) := by kernel_rfl
@[go_sem] theorem ty44_f1 : tyField Try.prog 44 1 = some (3, 3) := by kernel_rfl
@[go_sem] theorem ty44_f2 : tyField Try.prog 44 2 = some (4, 3) := by kernel_rfl
@[go_sem] theorem ty44_f3 : tyField Try.prog 44 3 = some (5, 3) := by kernel_rfl
@[go_sem] theorem ty44_f4 : tyField Try.prog 44 4 = some (6, 39) := by kernel_rfl
@[go_sem] theorem ty44_f5 : tyField Try.prog 44 5 = some (8, 40) := by kernel_rfl
@[go_sem] theorem ty44_f6 : tyField Try.prog 44 6 = some (9, 22) := by kernel_rfl
@[go_sem] theorem ty44_f7 : tyField Try.prog 44 7 = some (10, 41) := by kernel_rfl
@[go_sem] theorem ty44_f8 : tyField Try.prog 44 8 = some (11, 22) := by kernel_rfl
@[go_sem] theorem ty44_f9 : tyField Try.prog 44 9 = some (12, 42) := by kernel_rfl
@[go_sem] theorem ty44_f10 : tyField Try.prog 44 10 = some (13, 43) := by kernel_rfl
attribute [go_sem] Try.underlying44
@[go_sem] theorem ty45_size : tySize Try.prog 45 = some 14 := by kernel_rfl
@[go_sem] theorem ty45_agg : tyAgg Try.prog 45 = some true := by kernel_rfl
@[go_sem] theorem ty45_bytes : tyBytes Try.prog 45 = some 240 := by kernel_rfl
@[go_sem] theorem ty45_z : tyZ Try.prog 45 = some [.v (.slice none 0 0), .v (.int .i64 0), .v (.int .i64 0), .v (.int .i64 0), .v (.int .i64 0), .v (.int .i64 0), .v (.int .i64 0), .v (.slice none 0 0), .v (.slice none 0 0), .v (.slice none 0 0), .v (.slice none 0 0), .v (.slice none 0 0), .v (.slice none 0 0), .v (.slice none 0 0)] := by kernel_rfl
@[go_sem] theorem ty45_fok : fieldsOk Try.prog 45 = true := by kernel_rfl
@[go_sem] theorem ty45_f0 : tyField Try.prog 45 0 = some (0, 36) := by kernel_rfl
@[go_sem] theorem ty45_f1 : tyField Try.prog 45 1 = some (3, 3) := by kernel_rfl
@[go_sem] theorem ty45_f2 : tyField Try.prog 45 2 = some (4, 3) := by kernel_rfl
@[go_sem] theorem ty45_f3 : tyField Try.prog 45 3 = some (5, 3) := by kernel_rfl
@[go_sem] theorem ty45_f4 : tyField Try.prog 45 4 = some (6, 39) := by kernel_rfl
@[go_sem] theorem ty45_f5 : tyField Try.prog 45 5 = some (8, 40) := by kernel_rfl
@[go_sem] theorem ty45_f6 : tyField Try.prog 45 6 = some (9, 22) := by kernel_rfl
@[go_sem] theorem ty45_f7 : tyField Try.prog 45 7 = some (10, 41) := by kernel_rfl
@[go_sem] theorem ty45_f8 : tyField Try.prog 45 8 = some (11, 22) := by kernel_rfl
@[go_sem] theorem ty45_f9 : tyField Try.prog 45 9 = some (12, 42) := by kernel_rfl
@[go_sem] theorem ty45_f10 : tyField Try.prog 45 10 = some (13, 43) := by kernel_rfl
attribute [go_sem] Try.underlying45
@[go_sem] theorem ty79_size : tySize Try.prog 79 = some 1 := by kernel_rfl
@[go_sem] theorem ty79_agg : tyAgg Try.prog 79 = some false := by kernel_rfl
@[go_sem] theorem ty79_bytes : tyBytes Try.prog 79 = some 24 := by kernel_rfl
@[go_sem] theorem ty79_z : tyZ Try.prog 79 = some [.v (.slice none 0 0)] := by kernel_rfl
@[go_sem] theorem ty79_elem : tyElem Try.prog 79 = some 183 := by kernel_rfl
attribute [go_sem] Try.underlying79
@[go_sem] theorem ty80_size : tySize Try.prog 80 = some 2 := by kernel_rfl
@[go_sem] theorem ty80_agg : tyAgg Try.prog 80 = some true := by kernel_rfl
@[go_sem] theorem ty80_bytes : tyBytes Try.prog 80 = some 32 := by kernel_rfl
@[go_sem] theorem ty80_z : tyZ Try.prog 80 = some [.v (.int .i64 0), .v (.slice none 0 0)] := by kernel_rfl
@[go_sem] theorem ty80_fok : fieldsOk Try.prog 80 = true := by kernel_rfl
@[go_sem] theorem ty80_f0 : tyField Try.prog 80 0 = some (0, 3) := by kernel_rfl
@[go_sem] theorem ty80_f1 : tyField Try.prog 80 1 = some (1, 79) := by kernel_rfl
attribute [go_sem] Try.underlying80
@[go_sem] theorem ty81_size : tySize Try.prog 81 = some 2 := by kernel_rfl
@[go_sem] theorem ty81_agg : tyAgg Try.prog 81 = some true := by kernel_rfl
@[go_sem] theorem ty81_bytes : tyBytes Try.prog 81 = some 32 := by kernel_rfl
@[go_sem] theorem ty81_z : tyZ Try.prog 81 = some [.v (.int .i64 0), .v (.slice none 0 0)] := by kernel_rfl
@[go_sem] theorem ty81_fok : fieldsOk Try.prog 81 = true := by kernel_rfl
@[go_sem] theorem ty81_f0 : tyField Try.prog 81 0 = some (0, 3) := by kernel_rfl
@[go_sem] theorem ty81_f1 : tyField Try.prog 81 1 = some (1, 79) := by kernel_rfl
attribute [go_sem] Try.underlying81
@[go_sem] theorem ty82_size : tySize Try.prog 82 = some 1 := by kernel_rfl
@[go_sem] theorem ty82_agg : tyAgg Try.prog 82 = some false := by kernel_rfl
@[go_sem] theorem ty82_bytes : tyBytes Try.prog 82 = some 24 := by kernel_rfl
@[go_sem] theorem ty82_z : tyZ Try.prog 82 = some [.v (.slice none 0 0)] := by kernel_rfl
@[go_sem] theorem ty82_elem : tyElem Try.prog 82 = some 5 := by kernel_rfl
attribute [go_sem] Try.underlying82
@[go_sem] theorem ty83_size : tySize Try.prog 83 = some 5 := by kernel_rfl
@[go_sem] theorem ty83_agg : tyAgg Try.prog 83 = some true := by kernel_rfl
@[go_sem] theorem ty83_bytes : tyBytes Try.prog 83 = some 72 := by kernel_rfl
@[go_sem] theorem ty83_z : tyZ Try.prog 83 = some [.v (.int .i64 0), .v (.int .i64 0), .v (.int .i64 0), .v (.slice none 0 0), .v (.slice none 0 0)] := by kernel_rfl
@[go_sem] theorem ty83_fok : fieldsOk Try.prog 83 = true := by kernel_rfl
@[go_sem] theorem ty83_f0 : tyField Try.prog 83 0 = some (0, 3) := by kernel_rfl
@[go_sem] theorem ty83_f1 : tyField Try.prog 83 1 = some (1, 3) := by kernel_rfl
@[go_sem] theorem ty83_f2 : tyField Try.prog 83 2 = some (2, 81) := by kernel_rfl
@[go_sem] theorem ty83_f3 : tyField Try.prog 83 3 = some (4, 82) := by kernel_rfl
attribute [go_sem] Try.underlying83
@[go_sem] theorem ty84_size : tySize Try.prog 84 = some 5 := by kernel_rfl
@[go_sem] theorem ty84_agg : tyAgg Try.prog 84 = some true := by kernel_rfl
@[go_sem] theorem ty84_bytes : tyBytes Try.prog 84 = some 72 := by kernel_rfl
@[go_sem] theorem ty84_z : tyZ Try.prog 84 = some [.v (.int .i64 0), .v (.int .i64 0), .v (.int .i64 0), .v (.slice none 0 0), .v (.slice none 0 0)] := by kernel_rfl
@[go_sem] theorem ty84_fok : fieldsOk Try.prog 84 = true := by kernel_rfl
@[go_sem] theorem ty84_f0 : tyField Try.prog 84 0 = some (0, 3) := by kernel_rfl
@[go_sem] theorem ty84_f1 : tyField Try.prog 84 1 = some (1, 3) := by kernel_rfl
@[go_sem] theorem ty84_f2 : tyField Try.prog 84 2 = some (2, 81) := by kernel_rfl
@[go_sem] theorem ty84_f3 : tyField Try.prog 84 3 = some (4, 82) := by kernel_rfl
attribute [go_sem] Try.underlying84
@[go_sem] theorem ty86_size : tySize Try.prog 86 = some 1 := by kernel_rfl
@[go_sem] theorem ty86_agg : tyAgg Try.prog 86 = some false := by kernel_rfl
@[go_sem] theorem ty86_bytes : tyBytes Try.prog 86 = some 24 := by kernel_rfl
@[go_sem] theorem ty86_z : tyZ Try.prog 86 = some [.v (.slice none 0 0)] := by kernel_rfl
@[go_sem] theorem ty86_elem : tyElem Try.prog 86 = some 88 := by kernel_rfl
attribute [go_sem] Try.underlying86
@[go_sem] theorem ty87_size : tySize Try.prog 87 = some 3 := by kernel_rfl
@[go_sem] theorem ty87_agg : tyAgg Try.prog 87 = some true := by kernel_rfl
@[go_sem] theorem ty87_bytes : tyBytes Try.prog 87 = some 32 := by kernel_rfl
@[go_sem] theorem ty87_z : tyZ Try.prog 87 = some [.v (.int .i64 0), .v (.int .i64 0), .v (.string ByteArray.empty)] := by kernel_rfl
@[go_sem] theorem ty87_fok : fieldsOk Try.prog 87 = true := by kernel_rfl
@[go_sem] theorem ty87_f0 : tyField Try.prog 87 0 = some (0, 3) := by kernel_rfl
@[go_sem] theorem ty87_f1 : tyField Try.prog 87 1 = some (1, 3) := by kernel_rfl
@[go_sem] theorem ty87_f2 : tyField Try.prog 87 2 = some (2, 9) := by kernel_rfl
attribute [go_sem] Try.underlying87
@[go_sem] theorem ty88_size : tySize Try.prog 88 = some 3 := by kernel_rfl
@[go_sem] theorem ty88_agg : tyAgg Try.prog 88 = some true := by kernel_rfl
@[go_sem] theorem ty88_bytes : tyBytes Try.prog 88 = some 32 := by kernel_rfl
@[go_sem] theorem ty88_z : tyZ Try.prog 88 = some [.v (.int .i64 0), .v (.int .i64 0), .v (.string ByteArray.empty)] := by kernel_rfl
@[go_sem] theorem ty88_fok : fieldsOk Try.prog 88 = true := by kernel_rfl
@[go_sem] theorem ty88_f0 : tyField Try.prog 88 0 = some (0, 3) := by kernel_rfl
@[go_sem] theorem ty88_f1 : tyField Try.prog 88 1 = some (1, 3) := by kernel_rfl
@[go_sem] theorem ty88_f2 : tyField Try.prog 88 2 = some (2, 9) := by kernel_rfl
attribute [go_sem] Try.underlying88
@[go_sem] theorem ty89_size : tySize Try.prog 89 = some 1 := by kernel_rfl
@[go_sem] theorem ty89_agg : tyAgg Try.prog 89 = some false := by kernel_rfl
@[go_sem] theorem ty89_bytes : tyBytes Try.prog 89 = some 24 := by kernel_rfl
@[go_sem] theorem ty89_z : tyZ Try.prog 89 = some [.v (.slice none 0 0)] := by kernel_rfl
@[go_sem] theorem ty89_elem : tyElem Try.prog 89 = some 91 := by kernel_rfl
attribute [go_sem] Try.underlying89
@[go_sem] theorem ty90_size : tySize Try.prog 90 = some 7 := by kernel_rfl
@[go_sem] theorem ty90_agg : tyAgg Try.prog 90 = some true := by kernel_rfl
@[go_sem] theorem ty90_bytes : tyBytes Try.prog 90 = some 80 := by kernel_rfl
@[go_sem] theorem ty90_z : tyZ Try.prog 90 = some [.v (.int .i64 0), .v (.int .i64 0), .v (.int .i64 0), .v (.int .i64 0), .v (.int .i64 0), .v (.string ByteArray.empty), .v (.slice none 0 0)] := by kernel_rfl
@[go_sem] theorem ty90_fok : fieldsOk Try.prog 90 = true := by kernel_rfl
@[go_sem] theorem ty90_f0 : tyField Try.prog 90 0 = some (0, 3) := by kernel_rfl
@[go_sem] theorem ty90_f1 : tyField Try.prog 90 1 = some (1, 3) := by kernel_rfl
@[go_sem] theorem ty90_f2 : tyField Try.prog 90 2 = some (2, 3) := by kernel_rfl
@[go_sem] theorem ty90_f3 : tyField Try.prog 90 3 = some (3, 88) := by kernel_rfl
@[go_sem] theorem ty90_f4 : tyField Try.prog 90 4 = some (6, 89) := by kernel_rfl
attribute [go_sem] Try.underlying90
@[go_sem] theorem ty91_size : tySize Try.prog 91 = some 7 := by kernel_rfl
@[go_sem] theorem ty91_agg : tyAgg Try.prog 91 = some true := by kernel_rfl
@[go_sem] theorem ty91_bytes : tyBytes Try.prog 91 = some 80 := by kernel_rfl
@[go_sem] theorem ty91_z : tyZ Try.prog 91 = some [.v (.int .i64 0), .v (.int .i64 0), .v (.int .i64 0), .v (.int .i64 0), .v (.int .i64 0), .v (.string ByteArray.empty), .v (.slice none 0 0)] := by kernel_rfl
@[go_sem] theorem ty91_fok : fieldsOk Try.prog 91 = true := by kernel_rfl
@[go_sem] theorem ty91_f0 : tyField Try.prog 91 0 = some (0, 3) := by kernel_rfl
@[go_sem] theorem ty91_f1 : tyField Try.prog 91 1 = some (1, 3) := by kernel_rfl
@[go_sem] theorem ty91_f2 : tyField Try.prog 91 2 = some (2, 3) := by kernel_rfl
@[go_sem] theorem ty91_f3 : tyField Try.prog 91 3 = some (3, 88) := by kernel_rfl
@[go_sem] theorem ty91_f4 : tyField Try.prog 91 4 = some (6, 89) := by kernel_rfl
attribute [go_sem] Try.underlying91
@[go_sem] theorem ty92_size : tySize Try.prog 92 = some 10 := by kernel_rfl
@[go_sem] theorem ty92_agg : tyAgg Try.prog 92 = some true := by kernel_rfl
@[go_sem] theorem ty92_bytes : tyBytes Try.prog 92 = some 120 := by kernel_rfl
@[go_sem] theorem ty92_z : tyZ Try.prog 92 = some [.v (.int .i64 0), .v (.int .i64 0), .v (.int .i64 0), .v (.int .i64 0), .v (.int .i64 0), .v (.int .i64 0), .v (.string ByteArray.empty), .v (.slice none 0 0), .v (.int .i64 0), .v (.slice none 0 0)] := by kernel_rfl
@[go_sem] theorem ty92_fok : fieldsOk Try.prog 92 = true := by kernel_rfl
@[go_sem] theorem ty92_f0 : tyField Try.prog 92 0 = some (0, 3) := by kernel_rfl
@[go_sem] theorem ty92_f1 : tyField Try.prog 92 1 = some (1, 91) := by kernel_rfl
@[go_sem] theorem ty92_f2 : tyField Try.prog 92 2 = some (8, 3) := by kernel_rfl
@[go_sem] theorem ty92_f3 : tyField Try.prog 92 3 = some (9, 22) := by kernel_rfl
attribute [go_sem] Try.underlying92
@[go_sem] theorem ty93_size : tySize Try.prog 93 = some 10 := by kernel_rfl
@[go_sem] theorem ty93_agg : tyAgg Try.prog 93 = some true := by kernel_rfl
@[go_sem] theorem ty93_bytes : tyBytes Try.prog 93 = some 120 := by kernel_rfl
@[go_sem] theorem ty93_z : tyZ Try.prog 93 = some [.v (.int .i64 0), .v (.int .i64 0), .v (.int .i64 0), .v (.int .i64 0), .v (.int .i64 0), .v (.int .i64 0), .v (.string ByteArray.empty), .v (.slice none 0 0), .v (.int .i64 0), .v (.slice none 0 0)] := by kernel_rfl
@[go_sem] theorem ty93_fok : fieldsOk Try.prog 93 = true := by kernel_rfl
@[go_sem] theorem ty93_f0 : tyField Try.prog 93 0 = some (0, 3) := by kernel_rfl
@[go_sem] theorem ty93_f1 : tyField Try.prog 93 1 = some (1, 91) := by kernel_rfl
@[go_sem] theorem ty93_f2 : tyField Try.prog 93 2 = some (8, 3) := by kernel_rfl
@[go_sem] theorem ty93_f3 : tyField Try.prog 93 3 = some (9, 22) := by kernel_rfl
attribute [go_sem] Try.underlying93
@[go_sem] theorem ty94_size : tySize Try.prog 94 = some 1 := by kernel_rfl
@[go_sem] theorem ty94_agg : tyAgg Try.prog 94 = some false := by kernel_rfl
@[go_sem] theorem ty94_bytes : tyBytes Try.prog 94 = some 24 := by kernel_rfl
@[go_sem] theorem ty94_z : tyZ Try.prog 94 = some [.v (.slice none 0 0)] := by kernel_rfl
@[go_sem] theorem ty94_elem : tyElem Try.prog 94 = some 172 := by kernel_rfl
attribute [go_sem] Try.underlying94
@[go_sem] theorem ty95_size : tySize Try.prog 95 = some 25 := by kernel_rfl
@[go_sem] theorem ty95_agg : tyAgg Try.prog 95 = some true := by kernel_rfl
@[go_sem] theorem ty95_bytes : tyBytes Try.prog 95 = some 288 := by kernel_rfl
@[go_sem] theorem ty95_z : tyZ Try.prog 95 = some [.v (.int .i64 0), .v (.int .i64 0), .v (.int .i64 0), .v (.slice none 0 0), .v (.int .i64 0), .v (.int .i64 0), .v (.int .i64 0), .v (.int .i64 0), .v (.int .i64 0), .v (.int .i64 0), .v (.int .i64 0), .v (.string ByteArray.empty), .v (.slice none 0 0), .v (.int .i64 0), .v (.slice none 0 0), .v (.int .i64 0), .v (.int .i64 0), .v (.slice none 0 0), .v (.int .i64 0), .v (.int .i64 0), .v (.int .i64 0), .v (.int .i64 0), .v (.int .i64 0), .v (.bool false), .v (.slice none 0 0)] := by kernel_rfl
@[go_sem] theorem ty95_fok : fieldsOk Try.prog 95 = true := by kernel_rfl
@[go_sem] theorem ty95_f0 : tyField Try.prog 95 0 = some (0, 3) := by kernel_rfl
@[go_sem] theorem ty95_f1 : tyField Try.prog 95 1 = some (1, 3) := by kernel_rfl
@[go_sem] theorem ty95_f2 : tyField Try.prog 95 2 = some (2, 3) := by kernel_rfl
@[go_sem] theorem ty95_f3 : tyField Try.prog 95 3 = some (3, 86) := by kernel_rfl
@[go_sem] theorem ty95_f4 : tyField Try.prog 95 4 = some (4, 3) := by kernel_rfl
@[go_sem] theorem ty95_f5 : tyField Try.prog 95 5 = some (5, 93) := by kernel_rfl
@[go_sem] theorem ty95_f6 : tyField Try.prog 95 6 = some (15, 3) := by kernel_rfl
@[go_sem] theorem ty95_f7 : tyField Try.prog 95 7 = some (16, 3) := by kernel_rfl
@[go_sem] theorem ty95_f8 : tyField Try.prog 95 8 = some (17, 25) := by kernel_rfl
@[go_sem] theorem ty95_f9 : tyField Try.prog 95 9 = some (18, 3) := by kernel_rfl
@[go_sem] theorem ty95_f10 : tyField Try.prog 95 10 = some (19, 3) := by kernel_rfl
@[go_sem] theorem ty95_f11 : tyField Try.prog 95 11 = some (20, 3) := by kernel_rfl
@[go_sem] theorem ty95_f12 : tyField Try.prog 95 12 = some (21, 3) := by kernel_rfl
@[go_sem] theorem ty95_f13 : tyField Try.prog 95 13 = some (22, 3) := by kernel_rfl
@[go_sem] theorem ty95_f14 : tyField Try.prog 95 14 = some (23, 4) := by kernel_rfl
@[go_sem] theorem ty95_f15 : tyField Try.prog 95 15 = some (24, 94) := by kernel_rfl
attribute [go_sem] Try.underlying95
@[go_sem] theorem ty96_size : tySize Try.prog 96 = some 25 := by kernel_rfl
@[go_sem] theorem ty96_agg : tyAgg Try.prog 96 = some true := by kernel_rfl
@[go_sem] theorem ty96_bytes : tyBytes Try.prog 96 = some 288 := by kernel_rfl
@[go_sem] theorem ty96_z : tyZ Try.prog 96 = some [.v (.int .i64 0), .v (.int .i64 0), .v (.int .i64 0), .v (.slice none 0 0), .v (.int .i64 0), .v (.int .i64 0), .v (.int .i64 0), .v (.int .i64 0), .v (.int .i64 0), .v (.int .i64 0), .v (.int .i64 0), .v (.string ByteArray.empty), .v (.slice none 0 0), .v (.int .i64 0), .v (.slice none 0 0), .v (.int .i64 0), .v (.int .i64 0), .v (.slice none 0 0), .v (.int .i64 0), .v (.int .i64 0), .v (.int .i64 0), .v (.int .i64 0), .v (.int .i64 0), .v (.bool false), .v (.slice none 0 0)] := by kernel_rfl
@[go_sem] theorem ty96_fok : fieldsOk Try.prog 96 = true := by kernel_rfl
@[go_sem] theorem ty96_f0 : tyField Try.prog 96 0 = some (0, 3) := by kernel_rfl
@[go_sem] theorem ty96_f1 : tyField Try.prog 96 1 = some (1, 3) := by kernel_rfl
@[go_sem] theorem ty96_f2 : tyField Try.prog 96 2 = some (2, 3) := by kernel_rfl
@[go_sem] theorem ty96_f3 : tyField Try.prog 96 3 = some (3, 86) := by kernel_rfl
@[go_sem] theorem ty96_f4 : tyField Try.prog 96 4 = some (4, 3) := by kernel_rfl
@[go_sem] theorem ty96_f5 : tyField Try.prog 96 5 = some (5, 93) := by kernel_rfl
@[go_sem] theorem ty96_f6 : tyField Try.prog 96 6 = some (15, 3) := by kernel_rfl
@[go_sem] theorem ty96_f7 : tyField Try.prog 96 7 = some (16, 3) := by kernel_rfl
@[go_sem] theorem ty96_f8 : tyField Try.prog 96 8 = some (17, 25) := by kernel_rfl
@[go_sem] theorem ty96_f9 : tyField Try.prog 96 9 = some (18, 3) := by kernel_rfl
@[go_sem] theorem ty96_f10 : tyField Try.prog 96 10 = some (19, 3) := by kernel_rfl
@[go_sem] theorem ty96_f11 : tyField Try.prog 96 11 = some (20, 3) := by kernel_rfl
@[go_sem] theorem ty96_f12 : tyField Try.prog 96 12 = some (21, 3) := by kernel_rfl
@[go_sem] theorem ty96_f13 : tyField Try.prog 96 13 = some (22, 3) := by kernel_rfl
@[go_sem] theorem ty96_f14 : tyField Try.prog 96 14 = some (23, 4) := by kernel_rfl
@[go_sem] theorem ty96_f15 : tyField Try.prog 96 15 = some (24, 94) := by kernel_rfl
attribute [go_sem] Try.underlying96
@[go_sem] theorem ty98_size : tySize Try.prog 98 = some 6 := by kernel_rfl
@[go_sem] theorem ty98_agg : tyAgg Try.prog 98 = some true := by kernel_rfl
@[go_sem] theorem ty98_bytes : tyBytes Try.prog 98 = some 72 := by kernel_rfl
@[go_sem] theorem ty98_z : tyZ Try.prog 98 = some [.v (.slice none 0 0), .v (.int .i64 0), .v (.bool false), .v (.int .i64 0), .v (.int .i64 0), .v (.string ByteArray.empty)] := by kernel_rfl
@[go_sem] theorem ty98_fok : fieldsOk Try.prog 98 = true := by kernel_rfl
@[go_sem] theorem ty98_f0 : tyField Try.prog 98 0 = some (0, 94) := by kernel_rfl
@[go_sem] theorem ty98_f1 : tyField Try.prog 98 1 = some (1, 3) := by kernel_rfl
@[go_sem] theorem ty98_f2 : tyField Try.prog 98 2 = some (2, 4) := by kernel_rfl
@[go_sem] theorem ty98_f3 : tyField Try.prog 98 3 = some (3, 88) := by kernel_rfl
attribute [go_sem] Try.underlying98
@[go_sem] theorem ty99_size : tySize Try.prog 99 = some 6 := by kernel_rfl
@[go_sem] theorem ty99_agg : tyAgg Try.prog 99 = some true := by kernel_rfl
@[go_sem] theorem ty99_bytes : tyBytes Try.prog 99 = some 72 := by kernel_rfl
@[go_sem] theorem ty99_z : tyZ Try.prog 99 = some [.v (.slice none 0 0), .v (.int .i64 0), .v (.bool false), .v (.int .i64 0), .v (.int .i64 0), .v (.string ByteArray.empty)] := by kernel_rfl
@[go_sem] theorem ty99_fok : fieldsOk Try.prog 99 = true := by kernel_rfl
@[go_sem] theorem ty99_f0 : tyField Try.prog 99 0 = some (0, 94) := by kernel_rfl
@[go_sem] theorem ty99_f1 : tyField Try.prog 99 1 = some (1, 3) := by kernel_rfl
@[go_sem] theorem ty99_f2 : tyField Try.prog 99 2 = some (2, 4) := by kernel_rfl
@[go_sem] theorem ty99_f3 : tyField Try.prog 99 3 = some (3, 88) := by kernel_rfl
attribute [go_sem] Try.underlying99
@[go_sem] theorem ty100_size : tySize Try.prog 100 = some 25 := by kernel_rfl
@[go_sem] theorem ty100_agg : tyAgg Try.prog 100 = some true := by kernel_rfl
@[go_sem] theorem ty100_bytes : tyBytes Try.prog 100 = some 280 := by kernel_rfl
@[go_sem] theorem ty100_z : tyZ Try.prog 100 = some [.v (.int .i64 0), .v (.int .i64 0), .v (.slice none 0 0), .v (.int .i64 0), .v (.int .i64 0), .v (.int .i64 0), .v (.int .i64 0), .v (.int .i64 0), .v (.int .i64 0), .v (.int .i64 0), .v (.string ByteArray.empty), .v (.slice none 0 0), .v (.int .i64 0), .v (.slice none 0 0), .v (.slice none 0 0), .v (.int .i64 0), .v (.bool false), .v (.int .i64 0), .v (.int .i64 0), .v (.string ByteArray.empty), .v (.int .i64 0), .v (.int .i64 0), .v (.int .i64 0), .v (.int .i64 0), .v (.int .i64 0)] := by kernel_rfl
@[go_sem] theorem ty100_fok : fieldsOk Try.prog 100 = true := by kernel_rfl
@[go_sem] theorem ty100_f0 : tyField Try.prog 100 0 = some (0, 3) := by kernel_rfl
@[go_sem] theorem ty100_f1 : tyField Try.prog 100 1 = some (1, 3) := by kernel_rfl
@[go_sem] theorem ty100_f2 : tyField Try.prog 100 2 = some (2, 86) := by kernel_rfl
@[go_sem] theorem ty100_f3 : tyField Try.prog 100 3 = some (3, 3) := by kernel_rfl
@[go_sem] theorem ty100_f4 : tyField Try.prog 100 4 = some (4, 93) := by kernel_rfl
@[go_sem] theorem ty100_f5 : tyField Try.prog 100 5 = some (14, 99) := by kernel_rfl
@[go_sem] theorem ty100_f6 : tyField Try.prog 100 6 = some (20, 3) := by kernel_rfl
@[go_sem] theorem ty100_f7 : tyField Try.prog 100 7 = some (21, 3) := by kernel_rfl
@[go_sem] theorem ty100_f8 : tyField Try.prog 100 8 = some (22, 3) := by kernel_rfl
@[go_sem] theorem ty100_f9 : tyField Try.prog 100 9 = some (23, 3) := by kernel_rfl
@[go_sem] theorem ty100_f10 : tyField Try.prog 100 10 = some (24, 3) := by kernel_rfl
attribute [go_sem] Try.underlying100
@[go_sem] theorem ty101_size : tySize Try.prog 101 = some 25 := by kernel_rfl
@[go_sem] theorem ty101_agg : tyAgg Try.prog 101 = some true := by kernel_rfl
@[go_sem] theorem ty101_bytes : tyBytes Try.prog 101 = some 280 := by kernel_rfl
@[go_sem] theorem ty101_z : tyZ Try.prog 101 = some [.v (.int .i64 0), .v (.int .i64 0), .v (.slice none 0 0), .v (.int .i64 0), .v (.int .i64 0), .v (.int .i64 0), .v (.int .i64 0), .v (.int .i64 0), .v (.int .i64 0), .v (.int .i64 0), .v (.string ByteArray.empty), .v (.slice none 0 0), .v (.int .i64 0), .v (.slice none 0 0), .v (.slice none 0 0), .v (.int .i64 0), .v (.bool false), .v (.int .i64 0), .v (.int .i64 0), .v (.string ByteArray.empty), .v (.int .i64 0), .v (.int .i64 0), .v (.int .i64 0), .v (.int .i64 0), .v (.int .i64 0)] := by kernel_rfl
@[go_sem] theorem ty101_fok : fieldsOk Try.prog 101 = true := by kernel_rfl
@[go_sem] theorem ty101_f0 : tyField Try.prog 101 0 = some (0, 3) := by kernel_rfl
@[go_sem] theorem ty101_f1 : tyField Try.prog 101 1 = some (1, 3) := by kernel_rfl
@[go_sem] theorem ty101_f2 : tyField Try.prog 101 2 = some (2, 86) := by kernel_rfl
@[go_sem] theorem ty101_f3 : tyField Try.prog 101 3 = some (3, 3) := by kernel_rfl
@[go_sem] theorem ty101_f4 : tyField Try.prog 101 4 = some (4, 93) := by kernel_rfl
@[go_sem] theorem ty101_f5 : tyField Try.prog 101 5 = some (14, 99) := by kernel_rfl
@[go_sem] theorem ty101_f6 : tyField Try.prog 101 6 = some (20, 3) := by kernel_rfl
@[go_sem] theorem ty101_f7 : tyField Try.prog 101 7 = some (21, 3) := by kernel_rfl
@[go_sem] theorem ty101_f8 : tyField Try.prog 101 8 = some (22, 3) := by kernel_rfl
@[go_sem] theorem ty101_f9 : tyField Try.prog 101 9 = some (23, 3) := by kernel_rfl
@[go_sem] theorem ty101_f10 : tyField Try.prog 101 10 = some (24, 3) := by kernel_rfl
attribute [go_sem] Try.underlying101
@[go_sem] theorem ty103_size : tySize Try.prog 103 = some 1 := by kernel_rfl
@[go_sem] theorem ty103_agg : tyAgg Try.prog 103 = some false := by kernel_rfl
@[go_sem] theorem ty103_bytes : tyBytes Try.prog 103 = some 24 := by kernel_rfl
@[go_sem] theorem ty103_z : tyZ Try.prog 103 = some [.v (.slice none 0 0)] := by kernel_rfl
@[go_sem] theorem ty103_elem : tyElem Try.prog 103 = some 164 := by kernel_rfl
attribute [go_sem] Try.underlying103
@[go_sem] theorem ty104_size : tySize Try.prog 104 = some 2 := by kernel_rfl
@[go_sem] theorem ty104_agg : tyAgg Try.prog 104 = some true := by kernel_rfl
@[go_sem] theorem ty104_bytes : tyBytes Try.prog 104 = some 32 := by kernel_rfl
@[go_sem] theorem ty104_z : tyZ Try.prog 104 = some [.v (.int .i64 0), .v (.slice none 0 0)] := by kernel_rfl
@[go_sem] theorem ty104_fok : fieldsOk Try.prog 104 = true := by kernel_rfl
@[go_sem] theorem ty104_f0 : tyField Try.prog 104 0 = some (0, 3) := by kernel_rfl
@[go_sem] theorem ty104_f1 : tyField Try.prog 104 1 = some (1, 103) := by kernel_rfl
attribute [go_sem] Try.underlying104
@[go_sem] theorem ty105_size : tySize Try.prog 105 = some 2 := by kernel_rfl
@[go_sem] theorem ty105_agg : tyAgg Try.prog 105 = some true := by kernel_rfl
@[go_sem] theorem ty105_bytes : tyBytes Try.prog 105 = some 32 := by kernel_rfl
@[go_sem] theorem ty105_z : tyZ Try.prog 105 = some [.v (.int .i64 0), .v (.slice none 0 0)] := by kernel_rfl
@[go_sem] theorem ty105_fok : fieldsOk Try.prog 105 = true := by kernel_rfl
@[go_sem] theorem ty105_f0 : tyField Try.prog 105 0 = some (0, 3) := by kernel_rfl
@[go_sem] theorem ty105_f1 : tyField Try.prog 105 1 = some (1, 103) := by kernel_rfl
attribute [go_sem] Try.underlying105
@[go_sem] theorem ty106_size : tySize Try.prog 106 = some 5 := by kernel_rfl
@[go_sem] theorem ty106_agg : tyAgg Try.prog 106 = some true := by kernel_rfl
@[go_sem] theorem ty106_bytes : tyBytes Try.prog 106 = some 72 := by kernel_rfl
@[go_sem] theorem ty106_z : tyZ Try.prog 106 = some [.v (.int .i64 0), .v (.int .i64 0), .v (.int .i64 0), .v (.slice none 0 0), .v (.slice none 0 0)] := by kernel_rfl
@[go_sem] theorem ty106_fok : fieldsOk Try.prog 106 = true := by kernel_rfl
@[go_sem] theorem ty106_f0 : tyField Try.prog 106 0 = some (0, 3) := by kernel_rfl
@[go_sem] theorem ty106_f1 : tyField Try.prog 106 1 = some (1, 3) := by kernel_rfl
@[go_sem] theorem ty106_f2 : tyField Try.prog 106 2 = some (2, 105) := by kernel_rfl
@[go_sem] theorem ty106_f3 : tyField Try.prog 106 3 = some (4, 82) := by kernel_rfl
attribute [go_sem] Try.underlying106
@[go_sem] theorem ty107_size : tySize Try.prog 107 = some 5 := by kernel_rfl
@[go_sem] theorem ty107_agg : tyAgg Try.prog 107 = some true := by kernel_rfl
@[go_sem] theorem ty107_bytes : tyBytes Try.prog 107 = some 72 := by kernel_rfl
@[go_sem] theorem ty107_z : tyZ Try.prog 107 = some [.v (.int .i64 0), .v (.int .i64 0), .v (.int .i64 0), .v (.slice none 0 0), .v (.slice none 0 0)] := by kernel_rfl
@[go_sem] theorem ty107_fok : fieldsOk Try.prog 107 = true := by kernel_rfl
@[go_sem] theorem ty107_f0 : tyField Try.prog 107 0 = some (0, 3) := by kernel_rfl
@[go_sem] theorem ty107_f1 : tyField Try.prog 107 1 = some (1, 3) := by kernel_rfl
@[go_sem] theorem ty107_f2 : tyField Try.prog 107 2 = some (2, 105) := by kernel_rfl
@[go_sem] theorem ty107_f3 : tyField Try.prog 107 3 = some (4, 82) := by kernel_rfl
attribute [go_sem] Try.underlying107
@[go_sem] theorem ty109_size : tySize Try.prog 109 = some 3 := by kernel_rfl
@[go_sem] theorem ty109_agg : tyAgg Try.prog 109 = some true := by kernel_rfl
@[go_sem] theorem ty109_bytes : tyBytes Try.prog 109 = some 24 := by kernel_rfl
@[go_sem] theorem ty109_z : tyZ Try.prog 109 = some [.v (.int .i64 0), .v (.int .i64 0), .v (.int .i64 0)] := by kernel_rfl
@[go_sem] theorem ty109_fok : fieldsOk Try.prog 109 = true := by kernel_rfl
@[go_sem] theorem ty109_f0 : tyField Try.prog 109 0 = some (0, 3) := by kernel_rfl
@[go_sem] theorem ty109_f1 : tyField Try.prog 109 1 = some (1, 3) := by kernel_rfl
@[go_sem] theorem ty109_f2 : tyField Try.prog 109 2 = some (2, 3) := by kernel_rfl
attribute [go_sem] Try.underlying109
@[go_sem] theorem ty110_size : tySize Try.prog 110 = some 3 := by kernel_rfl
@[go_sem] theorem ty110_agg : tyAgg Try.prog 110 = some true := by kernel_rfl
@[go_sem] theorem ty110_bytes : tyBytes Try.prog 110 = some 24 := by kernel_rfl
@[go_sem] theorem ty110_z : tyZ Try.prog 110 = some [.v (.int .i64 0), .v (.int .i64 0), .v (.int .i64 0)] := by kernel_rfl
@[go_sem] theorem ty110_fok : fieldsOk Try.prog 110 = true := by kernel_rfl
@[go_sem] theorem ty110_f0 : tyField Try.prog 110 0 = some (0, 3) := by kernel_rfl
@[go_sem] theorem ty110_f1 : tyField Try.prog 110 1 = some (1, 3) := by kernel_rfl
@[go_sem] theorem ty110_f2 : tyField Try.prog 110 2 = some (2, 3) := by kernel_rfl
attribute [go_sem] Try.underlying110
@[go_sem] theorem ty112_size : tySize Try.prog 112 = some 3 := by kernel_rfl
@[go_sem] theorem ty112_agg : tyAgg Try.prog 112 = some true := by kernel_rfl
@[go_sem] theorem ty112_bytes : tyBytes Try.prog 112 = some 24 := by kernel_rfl
@[go_sem] theorem ty112_z : tyZ Try.prog 112 = some [.v (.int .i64 0), .v (.int .i64 0), .v (.int .i64 0)] := by kernel_rfl
@[go_sem] theorem ty112_fok : fieldsOk Try.prog 112 = true := by kernel_rfl
@[go_sem] theorem ty112_f0 : tyField Try.prog 112 0 = some (0, 3) := by kernel_rfl
@[go_sem] theorem ty112_f1 : tyField Try.prog 112 1 = some (1, 3) := by kernel_rfl
@[go_sem] theorem ty112_f2 : tyField Try.prog 112 2 = some (2, 3) := by kernel_rfl
attribute [go_sem] Try.underlying112
@[go_sem] theorem ty113_size : tySize Try.prog 113 = some 1 := by kernel_rfl
@[go_sem] theorem ty113_agg : tyAgg Try.prog 113 = some false := by kernel_rfl
@[go_sem] theorem ty113_bytes : tyBytes Try.prog 113 = some 24 := by kernel_rfl
@[go_sem] theorem ty113_z : tyZ Try.prog 113 = some [.v (.slice none 0 0)] := by kernel_rfl
@[go_sem] theorem ty113_elem : tyElem Try.prog 113 = some 114 := by kernel_rfl
attribute [go_sem] Try.underlying113
@[go_sem] theorem ty114_size : tySize Try.prog 114 = some 3 := by kernel_rfl
@[go_sem] theorem ty114_agg : tyAgg Try.prog 114 = some true := by kernel_rfl
@[go_sem] theorem ty114_bytes : tyBytes Try.prog 114 = some 32 := by kernel_rfl
@[go_sem] theorem ty114_z : tyZ Try.prog 114 = some [.v (.int .i64 0), .v (.int .i64 0), .v (.string ByteArray.empty)] := by kernel_rfl
@[go_sem] theorem ty114_fok : fieldsOk Try.prog 114 = true := by kernel_rfl
@[go_sem] theorem ty114_f0 : tyField Try.prog 114 0 = some (0, 3) := by kernel_rfl
@[go_sem] theorem ty114_f1 : tyField Try.prog 114 1 = some (1, 3) := by kernel_rfl
@[go_sem] theorem ty114_f2 : tyField Try.prog 114 2 = some (2, 9) := by kernel_rfl
attribute [go_sem] Try.underlying114
@[go_sem] theorem ty115_size : tySize Try.prog 115 = some 1 := by kernel_rfl
@[go_sem] theorem ty115_agg : tyAgg Try.prog 115 = some false := by kernel_rfl
@[go_sem] theorem ty115_bytes : tyBytes Try.prog 115 = some 24 := by kernel_rfl
@[go_sem] theorem ty115_z : tyZ Try.prog 115 = some [.v (.slice none 0 0)] := by kernel_rfl
@[go_sem] theorem ty115_elem : tyElem Try.prog 115 = some 117 := by kernel_rfl
attribute [go_sem] Try.underlying115
@[go_sem] theorem ty116_size : tySize Try.prog 116 = some 7 := by kernel_rfl
@[go_sem] theorem ty116_agg : tyAgg Try.prog 116 = some true := by kernel_rfl
@[go_sem] theorem ty116_bytes : tyBytes Try.prog 116 = some 80 := by kernel_rfl
@[go_sem] theorem ty116_z : tyZ Try.prog 116 = some [.v (.int .i64 0), .v (.int .i64 0), .v (.int .i64 0), .v (.int .i64 0), .v (.int .i64 0), .v (.string ByteArray.empty), .v (.slice none 0 0)] := by kernel_rfl
@[go_sem] theorem ty116_fok : fieldsOk Try.prog 116 = true := by kernel_rfl
@[go_sem] theorem ty116_f0 : tyField Try.prog 116 0 = some (0, 3) := by kernel_rfl
@[go_sem] theorem ty116_f1 : tyField Try.prog 116 1 = some (1, 3) := by kernel_rfl
@[go_sem] theorem ty116_f2 : tyField Try.prog 116 2 = some (2, 3) := by kernel_rfl
@[go_sem] theorem ty116_f3 : tyField Try.prog 116 3 = some (3, 114) := by kernel_rfl
@[go_sem] theorem ty116_f4 : tyField Try.prog 116 4 = some (6, 115) := by kernel_rfl
attribute [go_sem] Try.underlying116
@[go_sem] theorem ty117_size : tySize Try.prog 117 = some 7 := by kernel_rfl
@[go_sem] theorem ty117_agg : tyAgg Try.prog 117 = some true := by kernel_rfl
@[go_sem] theorem ty117_bytes : tyBytes Try.prog 117 = some 80 := by kernel_rfl
@[go_sem] theorem ty117_z : tyZ Try.prog 117 = some [.v (.int .i64 0), .v (.int .i64 0), .v (.int .i64 0), .v (.int .i64 0), .v (.int .i64 0), .v (.string ByteArray.empty), .v (.slice none 0 0)] := by kernel_rfl
@[go_sem] theorem ty117_fok : fieldsOk Try.prog 117 = true := by kernel_rfl
@[go_sem] theorem ty117_f0 : tyField Try.prog 117 0 = some (0, 3) := by kernel_rfl
@[go_sem] theorem ty117_f1 : tyField Try.prog 117 1 = some (1, 3) := by kernel_rfl
@[go_sem] theorem ty117_f2 : tyField Try.prog 117 2 = some (2, 3) := by kernel_rfl
@[go_sem] theorem ty117_f3 : tyField Try.prog 117 3 = some (3, 114) := by kernel_rfl
@[go_sem] theorem ty117_f4 : tyField Try.prog 117 4 = some (6, 115) := by kernel_rfl
attribute [go_sem] Try.underlying117
@[go_sem] theorem ty118_size : tySize Try.prog 118 = some 10 := by kernel_rfl
@[go_sem] theorem ty118_agg : tyAgg Try.prog 118 = some true := by kernel_rfl
@[go_sem] theorem ty118_bytes : tyBytes Try.prog 118 = some 120 := by kernel_rfl
@[go_sem] theorem ty118_z : tyZ Try.prog 118 = some [.v (.int .i64 0), .v (.int .i64 0), .v (.int .i64 0), .v (.int .i64 0), .v (.int .i64 0), .v (.int .i64 0), .v (.string ByteArray.empty), .v (.slice none 0 0), .v (.int .i64 0), .v (.slice none 0 0)] := by kernel_rfl
@[go_sem] theorem ty118_fok : fieldsOk Try.prog 118 = true := by kernel_rfl
@[go_sem] theorem ty118_f0 : tyField Try.prog 118 0 = some (0, 3) := by kernel_rfl
@[go_sem] theorem ty118_f1 : tyField Try.prog 118 1 = some (1, 117) := by kernel_rfl
@[go_sem] theorem ty118_f2 : tyField Try.prog 118 2 = some (8, 3) := by kernel_rfl
@[go_sem] theorem ty118_f3 : tyField Try.prog 118 3 = some (9, 22) := by kernel_rfl
attribute [go_sem] Try.underlying118
@[go_sem] theorem ty119_size : tySize Try.prog 119 = some 10 := by kernel_rfl
@[go_sem] theorem ty119_agg : tyAgg Try.prog 119 = some true := by kernel_rfl
@[go_sem] theorem ty119_bytes : tyBytes Try.prog 119 = some 120 := by kernel_rfl
@[go_sem] theorem ty119_z : tyZ Try.prog 119 = some [.v (.int .i64 0), .v (.int .i64 0), .v (.int .i64 0), .v (.int .i64 0), .v (.int .i64 0), .v (.int .i64 0), .v (.string ByteArray.empty), .v (.slice none 0 0), .v (.int .i64 0), .v (.slice none 0 0)] := by kernel_rfl
@[go_sem] theorem ty119_fok : fieldsOk Try.prog 119 = true := by kernel_rfl
@[go_sem] theorem ty119_f0 : tyField Try.prog 119 0 = some (0, 3) := by kernel_rfl
@[go_sem] theorem ty119_f1 : tyField Try.prog 119 1 = some (1, 117) := by kernel_rfl
@[go_sem] theorem ty119_f2 : tyField Try.prog 119 2 = some (8, 3) := by kernel_rfl
@[go_sem] theorem ty119_f3 : tyField Try.prog 119 3 = some (9, 22) := by kernel_rfl
attribute [go_sem] Try.underlying119
@[go_sem] theorem ty120_size : tySize Try.prog 120 = some 1 := by kernel_rfl
@[go_sem] theorem ty120_agg : tyAgg Try.prog 120 = some false := by kernel_rfl
@[go_sem] theorem ty120_bytes : tyBytes Try.prog 120 = some 24 := by kernel_rfl
@[go_sem] theorem ty120_z : tyZ Try.prog 120 = some [.v (.slice none 0 0)] := by kernel_rfl
@[go_sem] theorem ty120_elem : tyElem Try.prog 120 = some 166 := by kernel_rfl
attribute [go_sem] Try.underlying120
@[go_sem] theorem ty121_size : tySize Try.prog 121 = some 25 := by kernel_rfl
@[go_sem] theorem ty121_agg : tyAgg Try.prog 121 = some true := by kernel_rfl
@[go_sem] theorem ty121_bytes : tyBytes Try.prog 121 = some 288 := by kernel_rfl
@[go_sem] theorem ty121_z : tyZ Try.prog 121 = some [.v (.int .i64 0), .v (.int .i64 0), .v (.int .i64 0), .v (.slice none 0 0), .v (.int .i64 0), .v (.int .i64 0), .v (.int .i64 0), .v (.int .i64 0), .v (.int .i64 0), .v (.int .i64 0), .v (.int .i64 0), .v (.string ByteArray.empty), .v (.slice none 0 0), .v (.int .i64 0), .v (.slice none 0 0), .v (.int .i64 0), .v (.int .i64 0), .v (.slice none 0 0), .v (.int .i64 0), .v (.int .i64 0), .v (.int .i64 0), .v (.int .i64 0), .v (.int .i64 0), .v (.bool false), .v (.slice none 0 0)] := by kernel_rfl
@[go_sem] theorem ty121_fok : fieldsOk Try.prog 121 = true := by kernel_rfl
@[go_sem] theorem ty121_f0 : tyField Try.prog 121 0 = some (0, 3) := by kernel_rfl
@[go_sem] theorem ty121_f1 : tyField Try.prog 121 1 = some (1, 3) := by kernel_rfl
@[go_sem] theorem ty121_f2 : tyField Try.prog 121 2 = some (2, 3) := by kernel_rfl
@[go_sem] theorem ty121_f3 : tyField Try.prog 121 3 = some (3, 113) := by kernel_rfl
@[go_sem] theorem ty121_f4 : tyField Try.prog 121 4 = some (4, 3) := by kernel_rfl
@[go_sem] theorem ty121_f5 : tyField Try.prog 121 5 = some (5, 119) := by kernel_rfl
@[go_sem] theorem ty121_f6 : tyField Try.prog 121 6 = some (15, 3) := by kernel_rfl
@[go_sem] theorem ty121_f7 : tyField Try.prog 121 7 = some (16, 3) := by kernel_rfl
@[go_sem] theorem ty121_f8 : tyField Try.prog 121 8 = some (17, 37) := by kernel_rfl
@[go_sem] theorem ty121_f9 : tyField Try.prog 121 9 = some (18, 3) := by kernel_rfl
@[go_sem] theorem ty121_f10 : tyField Try.prog 121 10 = some (19, 3) := by kernel_rfl
@[go_sem] theorem ty121_f11 : tyField Try.prog 121 11 = some (20, 3) := by kernel_rfl
@[go_sem] theorem ty121_f12 : tyField Try.prog 121 12 = some (21, 3) := by kernel_rfl
@[go_sem] theorem ty121_f13 : tyField Try.prog 121 13 = some (22, 3) := by kernel_rfl
@[go_sem] theorem ty121_f14 : tyField Try.prog 121 14 = some (23, 4) := by kernel_rfl
@[go_sem] theorem ty121_f15 : tyField Try.prog 121 15 = some (24, 120) := by kernel_rfl
attribute [go_sem] Try.underlying121
@[go_sem] theorem ty122_size : tySize Try.prog 122 = some 25 := by kernel_rfl
@[go_sem] theorem ty122_agg : tyAgg Try.prog 122 = some true := by kernel_rfl
@[go_sem] theorem ty122_bytes : tyBytes Try.prog 122 = some 288 := by kernel_rfl
@[go_sem] theorem ty122_z : tyZ Try.prog 122 = some [.v (.int .i64 0), .v (.int .i64 0), .v (.int .i64 0), .v (.slice none 0 0), .v (.int .i64 0), .v (.int .i64 0), .v (.int .i64 0), .v (.int .i64 0), .v (.int .i64 0), .v (.int .i64 0), .v (.int .i64 0), .v (.string ByteArray.empty), .v (.slice none 0 0), .v (.int .i64 0), .v (.slice none 0 0), .v (.int .i64 0), .v (.int .i64 0), .v (.slice none 0 0), .v (.int .i64 0), .v (.int .i64 0), .v (.int .i64 0), .v (.int .i64 0), .v (.int .i64 0), .v (.bool false), .v (.slice none 0 0)] := by kernel_rfl
@[go_sem] theorem ty122_fok : fieldsOk Try.prog 122 = true := by kernel_rfl
@[go_sem] theorem ty122_f0 : tyField Try.prog 122 0 = some (0, 3) := by kernel_rfl
@[go_sem] theorem ty122_f1 : tyField Try.prog 122 1 = some (1, 3) := by kernel_rfl
@[go_sem] theorem ty122_f2 : tyField Try.prog 122 2 = some (2, 3) := by kernel_rfl
@[go_sem] theorem ty122_f3 : tyField Try.prog 122 3 = some (3, 113) := by kernel_rfl
@[go_sem] theorem ty122_f4 : tyField Try.prog 122 4 = some (4, 3) := by kernel_rfl
@[go_sem] theorem ty122_f5 : tyField Try.prog 122 5 = some (5, 119) := by kernel_rfl
@[go_sem] theorem ty122_f6 : tyField Try.prog 122 6 = some (15, 3) := by kernel_rfl
@[go_sem] theorem ty122_f7 : tyField Try.prog 122 7 = some (16, 3) := by kernel_rfl
@[go_sem] theorem ty122_f8 : tyField Try.prog 122 8 = some (17, 37) := by kernel_rfl
@[go_sem] theorem ty122_f9 : tyField Try.prog 122 9 = some (18, 3) := by kernel_rfl
@[go_sem] theorem ty122_f10 : tyField Try.prog 122 10 = some (19, 3) := by kernel_rfl
@[go_sem] theorem ty122_f11 : tyField Try.prog 122 11 = some (20, 3) := by kernel_rfl
@[go_sem] theorem ty122_f12 : tyField Try.prog 122 12 = some (21, 3) := by kernel_rfl
@[go_sem] theorem ty122_f13 : tyField Try.prog 122 13 = some (22, 3) := by kernel_rfl
@[go_sem] theorem ty122_f14 : tyField Try.prog 122 14 = some (23, 4) := by kernel_rfl
@[go_sem] theorem ty122_f15 : tyField Try.prog 122 15 = some (24, 120) := by kernel_rfl
attribute [go_sem] Try.underlying122
@[go_sem] theorem ty124_size : tySize Try.prog 124 = some 6 := by kernel_rfl
@[go_sem] theorem ty124_agg : tyAgg Try.prog 124 = some true := by kernel_rfl
@[go_sem] theorem ty124_bytes : tyBytes Try.prog 124 = some 72 := by kernel_rfl
@[go_sem] theorem ty124_z : tyZ Try.prog 124 = some [.v (.slice none 0 0), .v (.int .i64 0), .v (.bool false), .v (.int .i64 0), .v (.int .i64 0), .v (.string ByteArray.empty)] := by kernel_rfl
@[go_sem] theorem ty124_fok : fieldsOk Try.prog 124 = true := by kernel_rfl
@[go_sem] theorem ty124_f0 : tyField Try.prog 124 0 = some (0, 120) := by kernel_rfl
@[go_sem] theorem ty124_f1 : tyField Try.prog 124 1 = some (1, 3) := by kernel_rfl
@[go_sem] theorem ty124_f2 : tyField Try.prog 124 2 = some (2, 4) := by kernel_rfl
@[go_sem] theorem ty124_f3 : tyField Try.prog 124 3 = some (3, 114) := by kernel_rfl
attribute [go_sem] Try.underlying124
@[go_sem] theorem ty125_size : tySize Try.prog 125 = some 6 := by kernel_rfl
@[go_sem] theorem ty125_agg : tyAgg Try.prog 125 = some true := by kernel_rfl
@[go_sem] theorem ty125_bytes : tyBytes Try.prog 125 = some 72 := by kernel_rfl
@[go_sem] theorem ty125_z : tyZ Try.prog 125 = some [.v (.slice none 0 0), .v (.int .i64 0), .v (.bool false), .v (.int .i64 0), .v (.int .i64 0), .v (.string ByteArray.empty)] := by kernel_rfl
@[go_sem] theorem ty125_fok : fieldsOk Try.prog 125 = true := by kernel_rfl
@[go_sem] theorem ty125_f0 : tyField Try.prog 125 0 = some (0, 120) := by kernel_rfl
@[go_sem] theorem ty125_f1 : tyField Try.prog 125 1 = some (1, 3) := by kernel_rfl
@[go_sem] theorem ty125_f2 : tyField Try.prog 125 2 = some (2, 4) := by kernel_rfl
@[go_sem] theorem ty125_f3 : tyField Try.prog 125 3 = some (3, 114) := by kernel_rfl
attribute [go_sem] Try.underlying125
@[go_sem] theorem ty126_size : tySize Try.prog 126 = some 25 := by kernel_rfl
@[go_sem] theorem ty126_agg : tyAgg Try.prog 126 = some true := by kernel_rfl
@[go_sem] theorem ty126_bytes : tyBytes Try.prog 126 = some 280 := by kernel_rfl
@[go_sem] theorem ty126_z : tyZ Try.prog 126 = some [.v (.int .i64 0), .v (.int .i64 0), .v (.slice none 0 0), .v (.int .i64 0), .v (.int .i64 0), .v (.int .i64 0), .v (.int .i64 0), .v (.int .i64 0), .v (.int .i64 0), .v (.int .i64 0), .v (.string ByteArray.empty), .v (.slice none 0 0), .v (.int .i64 0), .v (.slice none 0 0), .v (.slice none 0 0), .v (.int .i64 0), .v (.bool false), .v (.int .i64 0), .v (.int .i64 0), .v (.string ByteArray.empty), .v (.int .i64 0), .v (.int .i64 0), .v (.int .i64 0), .v (.int .i64 0), .v (.int .i64 0)] := by kernel_rfl
@[go_sem] theorem ty126_fok : fieldsOk Try.prog 126 = true := by kernel_rfl
@[go_sem] theorem ty126_f0 : tyField Try.prog 126 0 = some (0, 3) := by kernel_rfl
@[go_sem] theorem ty126_f1 : tyField Try.prog 126 1 = some (1, 3) := by kernel_rfl
@[go_sem] theorem ty126_f2 : tyField Try.prog 126 2 = some (2, 113) := by kernel_rfl
@[go_sem] theorem ty126_f3 : tyField Try.prog 126 3 = some (3, 3) := by kernel_rfl
@[go_sem] theorem ty126_f4 : tyField Try.prog 126 4 = some (4, 119) := by kernel_rfl
@[go_sem] theorem ty126_f5 : tyField Try.prog 126 5 = some (14, 125) := by kernel_rfl
@[go_sem] theorem ty126_f6 : tyField Try.prog 126 6 = some (20, 3) := by kernel_rfl
@[go_sem] theorem ty126_f7 : tyField Try.prog 126 7 = some (21, 3) := by kernel_rfl
@[go_sem] theorem ty126_f8 : tyField Try.prog 126 8 = some (22, 3) := by kernel_rfl
@[go_sem] theorem ty126_f9 : tyField Try.prog 126 9 = some (23, 3) := by kernel_rfl
@[go_sem] theorem ty126_f10 : tyField Try.prog 126 10 = some (24, 3) := by kernel_rfl
attribute [go_sem] Try.underlying126
@[go_sem] theorem ty127_size : tySize Try.prog 127 = some 25 := by kernel_rfl
@[go_sem] theorem ty127_agg : tyAgg Try.prog 127 = some true := by kernel_rfl
@[go_sem] theorem ty127_bytes : tyBytes Try.prog 127 = some 280 := by kernel_rfl
@[go_sem] theorem ty127_z : tyZ Try.prog 127 = some [.v (.int .i64 0), .v (.int .i64 0), .v (.slice none 0 0), .v (.int .i64 0), .v (.int .i64 0), .v (.int .i64 0), .v (.int .i64 0), .v (.int .i64 0), .v (.int .i64 0), .v (.int .i64 0), .v (.string ByteArray.empty), .v (.slice none 0 0), .v (.int .i64 0), .v (.slice none 0 0), .v (.slice none 0 0), .v (.int .i64 0), .v (.bool false), .v (.int .i64 0), .v (.int .i64 0), .v (.string ByteArray.empty), .v (.int .i64 0), .v (.int .i64 0), .v (.int .i64 0), .v (.int .i64 0), .v (.int .i64 0)] := by kernel_rfl
@[go_sem] theorem ty127_fok : fieldsOk Try.prog 127 = true := by kernel_rfl
@[go_sem] theorem ty127_f0 : tyField Try.prog 127 0 = some (0, 3) := by kernel_rfl
@[go_sem] theorem ty127_f1 : tyField Try.prog 127 1 = some (1, 3) := by kernel_rfl
@[go_sem] theorem ty127_f2 : tyField Try.prog 127 2 = some (2, 113) := by kernel_rfl
@[go_sem] theorem ty127_f3 : tyField Try.prog 127 3 = some (3, 3) := by kernel_rfl
@[go_sem] theorem ty127_f4 : tyField Try.prog 127 4 = some (4, 119) := by kernel_rfl
@[go_sem] theorem ty127_f5 : tyField Try.prog 127 5 = some (14, 125) := by kernel_rfl
@[go_sem] theorem ty127_f6 : tyField Try.prog 127 6 = some (20, 3) := by kernel_rfl
@[go_sem] theorem ty127_f7 : tyField Try.prog 127 7 = some (21, 3) := by kernel_rfl
@[go_sem] theorem ty127_f8 : tyField Try.prog 127 8 = some (22, 3) := by kernel_rfl
@[go_sem] theorem ty127_f9 : tyField Try.prog 127 9 = some (23, 3) := by kernel_rfl
@[go_sem] theorem ty127_f10 : tyField Try.prog 127 10 = some (24, 3) := by kernel_rfl
attribute [go_sem] Try.underlying127
@[go_sem] theorem ty146_size : tySize Try.prog 146 = some 5 := by kernel_rfl
@[go_sem] theorem ty146_agg : tyAgg Try.prog 146 = some true := by kernel_rfl
@[go_sem] theorem ty146_bytes : tyBytes Try.prog 146 = some 40 := by kernel_rfl
@[go_sem] theorem ty146_z : tyZ Try.prog 146 = some [.v (.int .i64 0), .v (.int .i64 0), .v (.int .i64 0), .v (.int .i64 0), .v (.int .i64 0)] := by kernel_rfl
@[go_sem] theorem ty146_fok : fieldsOk Try.prog 146 = true := by kernel_rfl
@[go_sem] theorem ty146_f0 : tyField Try.prog 146 0 = some (0, 3) := by kernel_rfl
@[go_sem] theorem ty146_f1 : tyField Try.prog 146 1 = some (1, 3) := by kernel_rfl
@[go_sem] theorem ty146_f2 : tyField Try.prog 146 2 = some (2, 3) := by kernel_rfl
@[go_sem] theorem ty146_f3 : tyField Try.prog 146 3 = some (3, 3) := by kernel_rfl
@[go_sem] theorem ty146_f4 : tyField Try.prog 146 4 = some (4, 3) := by kernel_rfl
attribute [go_sem] Try.underlying146
@[go_sem] theorem ty147_size : tySize Try.prog 147 = some 5 := by kernel_rfl
@[go_sem] theorem ty147_agg : tyAgg Try.prog 147 = some true := by kernel_rfl
@[go_sem] theorem ty147_bytes : tyBytes Try.prog 147 = some 40 := by kernel_rfl
@[go_sem] theorem ty147_z : tyZ Try.prog 147 = some [.v (.int .i64 0), .v (.int .i64 0), .v (.int .i64 0), .v (.int .i64 0), .v (.int .i64 0)] := by kernel_rfl
@[go_sem] theorem ty147_fok : fieldsOk Try.prog 147 = true := by kernel_rfl
@[go_sem] theorem ty147_f0 : tyField Try.prog 147 0 = some (0, 3) := by kernel_rfl
@[go_sem] theorem ty147_f1 : tyField Try.prog 147 1 = some (1, 3) := by kernel_rfl
@[go_sem] theorem ty147_f2 : tyField Try.prog 147 2 = some (2, 3) := by kernel_rfl
@[go_sem] theorem ty147_f3 : tyField Try.prog 147 3 = some (3, 3) := by kernel_rfl
@[go_sem] theorem ty147_f4 : tyField Try.prog 147 4 = some (4, 3) := by kernel_rfl
attribute [go_sem] Try.underlying147
@[go_sem] theorem ty149_size : tySize Try.prog 149 = some 5 := by kernel_rfl
@[go_sem] theorem ty149_agg : tyAgg Try.prog 149 = some true := by kernel_rfl
@[go_sem] theorem ty149_bytes : tyBytes Try.prog 149 = some 40 := by kernel_rfl
@[go_sem] theorem ty149_z : tyZ Try.prog 149 = some [.v (.int .i64 0), .v (.int .i64 0), .v (.int .i64 0), .v (.int .i64 0), .v (.int .i64 0)] := by kernel_rfl
@[go_sem] theorem ty149_fok : fieldsOk Try.prog 149 = true := by kernel_rfl
@[go_sem] theorem ty149_f0 : tyField Try.prog 149 0 = some (0, 3) := by kernel_rfl
@[go_sem] theorem ty149_f1 : tyField Try.prog 149 1 = some (1, 3) := by kernel_rfl
@[go_sem] theorem ty149_f2 : tyField Try.prog 149 2 = some (2, 3) := by kernel_rfl
@[go_sem] theorem ty149_f3 : tyField Try.prog 149 3 = some (3, 3) := by kernel_rfl
@[go_sem] theorem ty149_f4 : tyField Try.prog 149 4 = some (4, 3) := by kernel_rfl
attribute [go_sem] Try.underlying149
@[go_sem] theorem ty163_size : tySize Try.prog 163 = some 2 := by kernel_rfl
@[go_sem] theorem ty163_agg : tyAgg Try.prog 163 = some true := by kernel_rfl
@[go_sem] theorem ty163_bytes : tyBytes Try.prog 163 = some 32 := by kernel_rfl
@[go_sem] theorem ty163_z : tyZ Try.prog 163 = some [.v (.int .i64 0), .v (.slice none 0 0)] := by kernel_rfl
@[go_sem] theorem ty163_fok : fieldsOk Try.prog 163 = true := by kernel_rfl
@[go_sem] theorem ty163_f0 : tyField Try.prog 163 0 = some (0, 3) := by kernel_rfl
@[go_sem] theorem ty163_f1 : tyField Try.prog 163 1 = some (1, 113) := by kernel_rfl
attribute [go_sem] Try.underlying163
@[go_sem] theorem ty164_size : tySize Try.prog 164 = some 2 := by kernel_rfl
@[go_sem] theorem ty164_agg : tyAgg Try.prog 164 = some true := by kernel_rfl
@[go_sem] theorem ty164_bytes : tyBytes Try.prog 164 = some 32 := by kernel_rfl
@[go_sem] theorem ty164_z : tyZ Try.prog 164 = some [.v (.int .i64 0), .v (.slice none 0 0)] := by kernel_rfl
@[go_sem] theorem ty164_fok : fieldsOk Try.prog 164 = true := by kernel_rfl
@[go_sem] theorem ty164_f0 : tyField Try.prog 164 0 = some (0, 3) := by kernel_rfl
@[go_sem] theorem ty164_f1 : tyField Try.prog 164 1 = some (1, 113) := by kernel_rfl
attribute [go_sem] Try.underlying164
@[go_sem] theorem ty165_size : tySize Try.prog 165 = some 2 := by kernel_rfl
@[go_sem] theorem ty165_agg : tyAgg Try.prog 165 = some true := by kernel_rfl
@[go_sem] theorem ty165_bytes : tyBytes Try.prog 165 = some 32 := by kernel_rfl
@[go_sem] theorem ty165_z : tyZ Try.prog 165 = some [.v (.int .i64 0), .v (.slice none 0 0)] := by kernel_rfl
@[go_sem] theorem ty165_fok : fieldsOk Try.prog 165 = true := by kernel_rfl
@[go_sem] theorem ty165_f0 : tyField Try.prog 165 0 = some (0, 3) := by kernel_rfl
@[go_sem] theorem ty165_f1 : tyField Try.prog 165 1 = some (1, 113) := by kernel_rfl
attribute [go_sem] Try.underlying165
@[go_sem] theorem ty166_size : tySize Try.prog 166 = some 2 := by kernel_rfl
@[go_sem] theorem ty166_agg : tyAgg Try.prog 166 = some true := by kernel_rfl
@[go_sem] theorem ty166_bytes : tyBytes Try.prog 166 = some 32 := by kernel_rfl
@[go_sem] theorem ty166_z : tyZ Try.prog 166 = some [.v (.int .i64 0), .v (.slice none 0 0)] := by kernel_rfl
@[go_sem] theorem ty166_fok : fieldsOk Try.prog 166 = true := by kernel_rfl
@[go_sem] theorem ty166_f0 : tyField Try.prog 166 0 = some (0, 3) := by kernel_rfl
@[go_sem] theorem ty166_f1 : tyField Try.prog 166 1 = some (1, 113) := by kernel_rfl
attribute [go_sem] Try.underlying166
@[go_sem] theorem ty171_size : tySize Try.prog 171 = some 2 := by kernel_rfl
@[go_sem] theorem ty171_agg : tyAgg Try.prog 171 = some true := by kernel_rfl
@[go_sem] theorem ty171_bytes : tyBytes Try.prog 171 = some 32 := by kernel_rfl
@[go_sem] theorem ty171_z : tyZ Try.prog 171 = some [.v (.int .i64 0), .v (.slice none 0 0)] := by kernel_rfl
@[go_sem] theorem ty171_fok : fieldsOk Try.prog 171 = true := by kernel_rfl
@[go_sem] theorem ty171_f0 : tyField Try.prog 171 0 = some (0, 3) := by kernel_rfl
@[go_sem] theorem ty171_f1 : tyField Try.prog 171 1 = some (1, 86) := by kernel_rfl
attribute [go_sem] Try.underlying171
@[go_sem] theorem ty172_size : tySize Try.prog 172 = some 2 := by kernel_rfl
@[go_sem] theorem ty172_agg : tyAgg Try.prog 172 = some true := by kernel_rfl
@[go_sem] theorem ty172_bytes : tyBytes Try.prog 172 = some 32 := by kernel_rfl
@[go_sem] theorem ty172_z : tyZ Try.prog 172 = some [.v (.int .i64 0), .v (.slice none 0 0)] := by kernel_rfl
@[go_sem] theorem ty172_fok : fieldsOk Try.prog 172 = true := by kernel_rfl
@[go_sem] theorem ty172_f0 : tyField Try.prog 172 0 = some (0, 3) := by kernel_rfl
@[go_sem] theorem ty172_f1 : tyField Try.prog 172 1 = some (1, 86) := by kernel_rfl
attribute [go_sem] Try.underlying172
@[go_sem] theorem ty182_size : tySize Try.prog 182 = some 2 := by kernel_rfl
@[go_sem] theorem ty182_agg : tyAgg Try.prog 182 = some true := by kernel_rfl
@[go_sem] theorem ty182_bytes : tyBytes Try.prog 182 = some 32 := by kernel_rfl
@[go_sem] theorem ty182_z : tyZ Try.prog 182 = some [.v (.int .i64 0), .v (.slice none 0 0)] := by kernel_rfl
@[go_sem] theorem ty182_fok : fieldsOk Try.prog 182 = true := by kernel_rfl
@[go_sem] theorem ty182_f0 : tyField Try.prog 182 0 = some (0, 3) := by kernel_rfl
@[go_sem] theorem ty182_f1 : tyField Try.prog 182 1 = some (1, 86) := by kernel_rfl
attribute [go_sem] Try.underlying182
@[go_sem] theorem ty183_size : tySize Try.prog 183 = some 2 := by kernel_rfl
@[go_sem] theorem ty183_agg : tyAgg Try.prog 183 = some true := by kernel_rfl
@[go_sem] theorem ty183_bytes : tyBytes Try.prog 183 = some 32 := by kernel_rfl
@[go_sem] theorem ty183_z : tyZ Try.prog 183 = some [.v (.int .i64 0), .v (.slice none 0 0)] := by kernel_rfl
@[go_sem] theorem ty183_fok : fieldsOk Try.prog 183 = true := by kernel_rfl
@[go_sem] theorem ty183_f0 : tyField Try.prog 183 0 = some (0, 3) := by kernel_rfl
@[go_sem] theorem ty183_f1 : tyField Try.prog 183 1 = some (1, 86) := by kernel_rfl
attribute [go_sem] Try.underlying183
@[go_sem] theorem ty190_size : tySize Try.prog 190 = some 4 := by kernel_rfl
@[go_sem] theorem ty190_agg : tyAgg Try.prog 190 = some true := by kernel_rfl
@[go_sem] theorem ty190_bytes : tyBytes Try.prog 190 = some 40 := by kernel_rfl
@[go_sem] theorem ty190_z : tyZ Try.prog 190 = some [.v (.pointer none), .v (.pointer none), .v (.pointer none), .v (.string ByteArray.empty)] := by kernel_rfl
@[go_sem] theorem ty190_fok : fieldsOk Try.prog 190 = true := by kernel_rfl
@[go_sem] theorem ty190_f0 : tyField Try.prog 190 0 = some (0, 17) := by kernel_rfl
@[go_sem] theorem ty190_f1 : tyField Try.prog 190 1 = some (1, 17) := by kernel_rfl
@[go_sem] theorem ty190_f2 : tyField Try.prog 190 2 = some (2, 17) := by kernel_rfl
@[go_sem] theorem ty190_f3 : tyField Try.prog 190 3 = some (3, 9) := by kernel_rfl
attribute [go_sem] Try.underlying190
@[go_sem] theorem ty192_size : tySize Try.prog 192 = some 0 := by kernel_rfl
@[go_sem] theorem ty192_agg : tyAgg Try.prog 192 = some true := by kernel_rfl
@[go_sem] theorem ty192_bytes : tyBytes Try.prog 192 = some 0 := by kernel_rfl
@[go_sem] theorem ty192_z : tyZ Try.prog 192 = some [] := by kernel_rfl
attribute [go_sem] Try.underlying192
@[go_sem] theorem ty193_size : tySize Try.prog 193 = some 0 := by kernel_rfl
@[go_sem] theorem ty193_agg : tyAgg Try.prog 193 = some true := by kernel_rfl
@[go_sem] theorem ty193_bytes : tyBytes Try.prog 193 = some 0 := by kernel_rfl
@[go_sem] theorem ty193_z : tyZ Try.prog 193 = some [] := by kernel_rfl
@[go_sem] theorem ty193_fok : fieldsOk Try.prog 193 = true := by kernel_rfl
@[go_sem] theorem ty193_f0 : tyField Try.prog 193 0 = some (0, 192) := by kernel_rfl
attribute [go_sem] Try.underlying193
@[go_sem] theorem ty196_size : tySize Try.prog 196 = some 1 := by kernel_rfl
@[go_sem] theorem ty196_agg : tyAgg Try.prog 196 = some false := by kernel_rfl
@[go_sem] theorem ty196_bytes : tyBytes Try.prog 196 = some 4 := by kernel_rfl
@[go_sem] theorem ty196_z : tyZ Try.prog 196 = some [.v (.int .u32 0)] := by kernel_rfl
attribute [go_sem] Try.underlying196
@[go_sem] theorem ty203_size : tySize Try.prog 203 = some 11 := by kernel_rfl
@[go_sem] theorem ty203_agg : tyAgg Try.prog 203 = some true := by kernel_rfl
@[go_sem] theorem ty203_bytes : tyBytes Try.prog 203 = some 48 := by kernel_rfl
@[go_sem] theorem ty203_z : tyZ Try.prog 203 = some [.v (.int .u64 0), .v (.int .u64 0), .v (.int .u32 0), .v (.int .u8 0), .v (.int .u8 0), .v (.int .u8 0), .v (.int .u8 0), .v (.nilFunc), .v (.pointer none), .v (.int .i32 0), .v (.int .i32 0)] := by kernel_rfl
@[go_sem] theorem ty203_fok : fieldsOk Try.prog 203 = true := by kernel_rfl
@[go_sem] theorem ty203_f0 : tyField Try.prog 203 0 = some (0, 12) := by kernel_rfl
@[go_sem] theorem ty203_f1 : tyField Try.prog 203 1 = some (1, 12) := by kernel_rfl
@[go_sem] theorem ty203_f2 : tyField Try.prog 203 2 = some (2, 196) := by kernel_rfl
@[go_sem] theorem ty203_f3 : tyField Try.prog 203 3 = some (3, 197) := by kernel_rfl
@[go_sem] theorem ty203_f4 : tyField Try.prog 203 4 = some (4, 5) := by kernel_rfl
@[go_sem] theorem ty203_f5 : tyField Try.prog 203 5 = some (5, 5) := by kernel_rfl
@[go_sem] theorem ty203_f6 : tyField Try.prog 203 6 = some (6, 198) := by kernel_rfl
@[go_sem] theorem ty203_f7 : tyField Try.prog 203 7 = some (7, 199) := by kernel_rfl
@[go_sem] theorem ty203_f8 : tyField Try.prog 203 8 = some (8, 200) := by kernel_rfl
@[go_sem] theorem ty203_f9 : tyField Try.prog 203 9 = some (9, 201) := by kernel_rfl
@[go_sem] theorem ty203_f10 : tyField Try.prog 203 10 = some (10, 202) := by kernel_rfl
attribute [go_sem] Try.underlying203
@[go_sem] theorem ty205_size : tySize Try.prog 205 = some 1 := by kernel_rfl
@[go_sem] theorem ty205_agg : tyAgg Try.prog 205 = some false := by kernel_rfl
@[go_sem] theorem ty205_bytes : tyBytes Try.prog 205 = some 8 := by kernel_rfl
@[go_sem] theorem ty205_z : tyZ Try.prog 205 = some [.v (.pointer none)] := by kernel_rfl
attribute [go_sem] Try.underlying205
end Go.Proofs.Ytekkkcelnaomoaa
