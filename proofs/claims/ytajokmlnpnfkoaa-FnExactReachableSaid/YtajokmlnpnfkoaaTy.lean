/- Facts on the types of this seat, by program (gen_ty.py). -/
import Derived.Test.YtajokmlnpnfkoaaVmU
import Derived.Test.YtajokmlnpnfkoaaRows
namespace Go.Proofs.Ytajokmlnpnfkoaa
set_option linter.unusedSimpArgs false
set_option linter.unusedVariables false
open Go.Vm

theorem mixed : Try.prog.follows .mixedOrders = true := by kernel_rfl
@[go_sem] theorem ty2_size : tySize Try.prog 2 = some 1 := by kernel_rfl
@[go_sem] theorem ty2_agg : tyAgg Try.prog 2 = some false := by kernel_rfl
@[go_sem] theorem ty2_bytes : tyBytes Try.prog 2 = some 8 := by kernel_rfl
@[go_sem] theorem ty2_z : tyZ Try.prog 2 = some [.v (.int .i64 0)] := by kernel_rfl
attribute [go_sem] Try.underlying2
@[go_sem] theorem ty3_size : tySize Try.prog 3 = some 1 := by kernel_rfl
@[go_sem] theorem ty3_agg : tyAgg Try.prog 3 = some false := by kernel_rfl
@[go_sem] theorem ty3_bytes : tyBytes Try.prog 3 = some 8 := by kernel_rfl
@[go_sem] theorem ty3_z : tyZ Try.prog 3 = some [.v (.int .i64 0)] := by kernel_rfl
attribute [go_sem] Try.underlying3
@[go_sem] theorem ty4_size : tySize Try.prog 4 = some 1 := by kernel_rfl
@[go_sem] theorem ty4_agg : tyAgg Try.prog 4 = some false := by kernel_rfl
@[go_sem] theorem ty4_bytes : tyBytes Try.prog 4 = some 1 := by kernel_rfl
@[go_sem] theorem ty4_z : tyZ Try.prog 4 = some [.v (.bool false)] := by kernel_rfl
attribute [go_sem] Try.underlying4
@[go_sem] theorem ty5_size : tySize Try.prog 5 = some 1 := by kernel_rfl
@[go_sem] theorem ty5_agg : tyAgg Try.prog 5 = some false := by kernel_rfl
@[go_sem] theorem ty5_bytes : tyBytes Try.prog 5 = some 1 := by kernel_rfl
@[go_sem] theorem ty5_z : tyZ Try.prog 5 = some [.v (.int .u8 0)] := by kernel_rfl
attribute [go_sem] Try.underlying5
@[go_sem] theorem ty7_size : tySize Try.prog 7 = some 4 := by kernel_rfl
@[go_sem] theorem ty7_agg : tyAgg Try.prog 7 = some true := by kernel_rfl
@[go_sem] theorem ty7_bytes : tyBytes Try.prog 7 = some 24 := by kernel_rfl
@[go_sem] theorem ty7_z : tyZ Try.prog 7 = some [.v (.int .i64 0), .v (.int .i64 0), .v (.bool false), .v (.int .u8 0)] := by kernel_rfl
@[go_sem] theorem ty7_fok : fieldsOk Try.prog 7 = true := by kernel_rfl
@[go_sem] theorem ty7_f0 : tyField Try.prog 7 0 = some (0, 2) := by kernel_rfl
@[go_sem] theorem ty7_f1 : tyField Try.prog 7 1 = some (1, 3) := by kernel_rfl
@[go_sem] theorem ty7_f2 : tyField Try.prog 7 2 = some (2, 4) := by kernel_rfl
@[go_sem] theorem ty7_f3 : tyField Try.prog 7 3 = some (3, 6) := by kernel_rfl
attribute [go_sem] Try.underlying7
@[go_sem] theorem ty9_size : tySize Try.prog 9 = some 1 := by kernel_rfl
@[go_sem] theorem ty9_agg : tyAgg Try.prog 9 = some false := by kernel_rfl
@[go_sem] theorem ty9_bytes : tyBytes Try.prog 9 = some 16 := by kernel_rfl
@[go_sem] theorem ty9_z : tyZ Try.prog 9 = some [.v (.string ByteArray.empty)] := by kernel_rfl
attribute [go_sem] Try.underlying9
@[go_sem] theorem ty12_size : tySize Try.prog 12 = some 1 := by kernel_rfl
@[go_sem] theorem ty12_agg : tyAgg Try.prog 12 = some false := by kernel_rfl
@[go_sem] theorem ty12_bytes : tyBytes Try.prog 12 = some 8 := by kernel_rfl
@[go_sem] theorem ty12_z : tyZ Try.prog 12 = some [.v (.int .u64 0)] := by kernel_rfl
attribute [go_sem] Try.underlying12
@[go_sem] theorem ty13_size : tySize Try.prog 13 = some 2 := by kernel_rfl
@[go_sem] theorem ty13_agg : tyAgg Try.prog 13 = some true := by kernel_rfl
@[go_sem] theorem ty13_bytes : tyBytes Try.prog 13 = some 24 := by kernel_rfl
@[go_sem] theorem ty13_z : tyZ Try.prog 13 = some [.v (.string ByteArray.empty), .v (.int .u64 0)] := by kernel_rfl
@[go_sem] theorem ty13_fok : fieldsOk Try.prog 13 = true := by kernel_rfl
@[go_sem] theorem ty13_f0 : tyField Try.prog 13 0 = some (0, 9) := by kernel_rfl
@[go_sem] theorem ty13_f1 : tyField Try.prog 13 1 = some (1, 12) := by kernel_rfl
attribute [go_sem] Try.underlying13
@[go_sem] theorem ty18_size : tySize Try.prog 18 = some 1 := by kernel_rfl
@[go_sem] theorem ty18_agg : tyAgg Try.prog 18 = some true := by kernel_rfl
@[go_sem] theorem ty18_bytes : tyBytes Try.prog 18 = some 8 := by kernel_rfl
@[go_sem] theorem ty18_z : tyZ Try.prog 18 = some [.v (.pointer none)] := by kernel_rfl
@[go_sem] theorem ty18_fok : fieldsOk Try.prog 18 = true := by kernel_rfl
@[go_sem] theorem ty18_f0 : tyField Try.prog 18 0 = some (0, 17) := by kernel_rfl
attribute [go_sem] Try.underlying18
@[go_sem] theorem ty21_size : tySize Try.prog 21 = some 1 := by kernel_rfl
@[go_sem] theorem ty21_agg : tyAgg Try.prog 21 = some false := by kernel_rfl
@[go_sem] theorem ty21_bytes : tyBytes Try.prog 21 = some 4 := by kernel_rfl
@[go_sem] theorem ty21_z : tyZ Try.prog 21 = some [.v (.int .i32 0)] := by kernel_rfl
attribute [go_sem] Try.underlying21
@[go_sem] theorem ty22_size : tySize Try.prog 22 = some 1 := by kernel_rfl
@[go_sem] theorem ty22_agg : tyAgg Try.prog 22 = some false := by kernel_rfl
@[go_sem] theorem ty22_bytes : tyBytes Try.prog 22 = some 24 := by kernel_rfl
@[go_sem] theorem ty22_z : tyZ Try.prog 22 = some [.v (.slice none 0 0)] := by kernel_rfl
@[go_sem] theorem ty22_elem : tyElem Try.prog 22 = some 3 := by kernel_rfl
attribute [go_sem] Try.underlying22
@[go_sem] theorem ty23_size : tySize Try.prog 23 = some 3 := by kernel_rfl
@[go_sem] theorem ty23_agg : tyAgg Try.prog 23 = some true := by kernel_rfl
@[go_sem] theorem ty23_bytes : tyBytes Try.prog 23 = some 40 := by kernel_rfl
@[go_sem] theorem ty23_z : tyZ Try.prog 23 = some [.v (.slice none 0 0), .v (.int .i64 0), .v (.int .i64 0)] := by kernel_rfl
@[go_sem] theorem ty23_fok : fieldsOk Try.prog 23 = true := by kernel_rfl
@[go_sem] theorem ty23_f0 : tyField Try.prog 23 0 = some (0, 22) := by kernel_rfl
@[go_sem] theorem ty23_f1 : tyField Try.prog 23 1 = some (1, 3) := by kernel_rfl
@[go_sem] theorem ty23_f2 : tyField Try.prog 23 2 = some (2, 3) := by kernel_rfl
attribute [go_sem] Try.underlying23
@[go_sem] theorem ty24_size : tySize Try.prog 24 = some 3 := by kernel_rfl
@[go_sem] theorem ty24_agg : tyAgg Try.prog 24 = some true := by kernel_rfl
@[go_sem] theorem ty24_bytes : tyBytes Try.prog 24 = some 40 := by kernel_rfl
@[go_sem] theorem ty24_z : tyZ Try.prog 24 = some [.v (.slice none 0 0), .v (.int .i64 0), .v (.int .i64 0)] := by kernel_rfl
@[go_sem] theorem ty24_fok : fieldsOk Try.prog 24 = true := by kernel_rfl
@[go_sem] theorem ty24_f0 : tyField Try.prog 24 0 = some (0, 22) := by kernel_rfl
@[go_sem] theorem ty24_f1 : tyField Try.prog 24 1 = some (1, 3) := by kernel_rfl
@[go_sem] theorem ty24_f2 : tyField Try.prog 24 2 = some (2, 3) := by kernel_rfl
attribute [go_sem] Try.underlying24
@[go_sem] theorem ty25_size : tySize Try.prog 25 = some 1 := by kernel_rfl
@[go_sem] theorem ty25_agg : tyAgg Try.prog 25 = some false := by kernel_rfl
@[go_sem] theorem ty25_bytes : tyBytes Try.prog 25 = some 24 := by kernel_rfl
@[go_sem] theorem ty25_z : tyZ Try.prog 25 = some [.v (.slice none 0 0)] := by kernel_rfl
@[go_sem] theorem ty25_elem : tyElem Try.prog 25 = some 143 := by kernel_rfl
attribute [go_sem] Try.underlying25
@[go_sem] theorem ty26_size : tySize Try.prog 26 = some 2 := by kernel_rfl
@[go_sem] theorem ty26_agg : tyAgg Try.prog 26 = some true := by kernel_rfl
@[go_sem] theorem ty26_bytes : tyBytes Try.prog 26 = some 32 := by kernel_rfl
@[go_sem] theorem ty26_z : tyZ Try.prog 26 = some [.v (.int .i64 0), .v (.slice none 0 0)] := by kernel_rfl
@[go_sem] theorem ty26_fok : fieldsOk Try.prog 26 = true := by kernel_rfl
@[go_sem] theorem ty26_f0 : tyField Try.prog 26 0 = some (0, 3) := by kernel_rfl
@[go_sem] theorem ty26_f1 : tyField Try.prog 26 1 = some (1, 25) := by kernel_rfl
attribute [go_sem] Try.underlying26
@[go_sem] theorem ty27_size : tySize Try.prog 27 = some 2 := by kernel_rfl
@[go_sem] theorem ty27_agg : tyAgg Try.prog 27 = some true := by kernel_rfl
@[go_sem] theorem ty27_bytes : tyBytes Try.prog 27 = some 32 := by kernel_rfl
@[go_sem] theorem ty27_z : tyZ Try.prog 27 = some [.v (.int .i64 0), .v (.slice none 0 0)] := by kernel_rfl
@[go_sem] theorem ty27_fok : fieldsOk Try.prog 27 = true := by kernel_rfl
@[go_sem] theorem ty27_f0 : tyField Try.prog 27 0 = some (0, 3) := by kernel_rfl
@[go_sem] theorem ty27_f1 : tyField Try.prog 27 1 = some (1, 25) := by kernel_rfl
attribute [go_sem] Try.underlying27
@[go_sem] theorem ty28_size : tySize Try.prog 28 = some 1 := by kernel_rfl
@[go_sem] theorem ty28_agg : tyAgg Try.prog 28 = some false := by kernel_rfl
@[go_sem] theorem ty28_bytes : tyBytes Try.prog 28 = some 24 := by kernel_rfl
@[go_sem] theorem ty28_z : tyZ Try.prog 28 = some [.v (.slice none 0 0)] := by kernel_rfl
@[go_sem] theorem ty28_elem : tyElem Try.prog 28 = some 101 := by kernel_rfl
attribute [go_sem] Try.underlying28
@[go_sem] theorem ty29_size : tySize Try.prog 29 = some 1 := by kernel_rfl
@[go_sem] theorem ty29_agg : tyAgg Try.prog 29 = some false := by kernel_rfl
@[go_sem] theorem ty29_bytes : tyBytes Try.prog 29 = some 24 := by kernel_rfl
@[go_sem] theorem ty29_z : tyZ Try.prog 29 = some [.v (.slice none 0 0)] := by kernel_rfl
@[go_sem] theorem ty29_elem : tyElem Try.prog 29 = some 123 := by kernel_rfl
attribute [go_sem] Try.underlying29
@[go_sem] theorem ty30_size : tySize Try.prog 30 = some 1 := by kernel_rfl
@[go_sem] theorem ty30_agg : tyAgg Try.prog 30 = some false := by kernel_rfl
@[go_sem] theorem ty30_bytes : tyBytes Try.prog 30 = some 24 := by kernel_rfl
@[go_sem] theorem ty30_z : tyZ Try.prog 30 = some [.v (.slice none 0 0)] := by kernel_rfl
@[go_sem] theorem ty30_elem : tyElem Try.prog 30 = some 112 := by kernel_rfl
attribute [go_sem] Try.underlying30
@[go_sem] theorem ty31_size : tySize Try.prog 31 = some 1 := by kernel_rfl
@[go_sem] theorem ty31_agg : tyAgg Try.prog 31 = some false := by kernel_rfl
@[go_sem] theorem ty31_bytes : tyBytes Try.prog 31 = some 24 := by kernel_rfl
@[go_sem] theorem ty31_z : tyZ Try.prog 31 = some [.v (.slice none 0 0)] := by kernel_rfl
@[go_sem] theorem ty31_elem : tyElem Try.prog 31 = some 117 := by kernel_rfl
attribute [go_sem] Try.underlying31
@[go_sem] theorem ty32_size : tySize Try.prog 32 = some 14 := by kernel_rfl
@[go_sem] theorem ty32_agg : tyAgg Try.prog 32 = some true := by kernel_rfl
@[go_sem] theorem ty32_bytes : tyBytes Try.prog 32 = some 240 := by kernel_rfl
@[go_sem] theorem ty32_z : tyZ Try.prog 32 = some [.v (.slice none 0 0), .v (.int .i64 0), .v (.int .i64 0), .v (.int .i64 0), .v (.int .i64 0), .v (.int .i64 0), .v (.int .i64 0), .v (.slice none 0 0), .v (.slice none 0 0), .v (.slice none 0 0), .v (.slice none 0 0), .v (.slice none 0 0), .v (.slice none 0 0), .v (.slice none 0 0)] := by kernel_rfl
@[go_sem] theorem ty32_fok : fieldsOk Try.prog 32 = true := by kernel_rfl
@[go_sem] theorem ty32_f0 : tyField Try.prog 32 0 = some (0, 24) := by kernel_rfl
@[go_sem] theorem ty32_f1 : tyField Try.prog 32 1 = some (3, 3) := by kernel_rfl
@[go_sem] theorem ty32_f2 : tyField Try.prog 32 2 = some (4, 3) := by kernel_rfl
@[go_sem] theorem ty32_f3 : tyField Try.prog 32 3 = some (5, 3) := by kernel_rfl
@[go_sem] theorem ty32_f4 : tyField Try.prog 32 4 = some (6, 27) := by kernel_rfl
@[go_sem] theorem ty32_f5 : tyField Try.prog 32 5 = some (8, 28) := by kernel_rfl
@[go_sem] theorem ty32_f6 : tyField Try.prog 32 6 = some (9, 22) := by kernel_rfl
@[go_sem] theorem ty32_f7 : tyField Try.prog 32 7 = some (10, 29) := by kernel_rfl
@[go_sem] theorem ty32_f8 : tyField Try.prog 32 8 = some (11, 22) := by kernel_rfl
@[go_sem] theorem ty32_f9 : tyField Try.prog 32 9 = some (12, 30) := by kernel_rfl
@[go_sem] theorem ty32_f10 : tyField Try.prog 32 10 = some (13, 31) := by kernel_rfl
attribute [go_sem] Try.underlying32
@[go_sem] theorem ty33_size : tySize Try.prog 33 = some 14 := by kernel_rfl
@[go_sem] theorem ty33_agg : tyAgg Try.prog 33 = some true := by kernel_rfl
@[go_sem] theorem ty33_bytes : tyBytes Try.prog 33 = some 240 := by kernel_rfl
@[go_sem] theorem ty33_z : tyZ Try.prog 33 = some [.v (.slice none 0 0), .v (.int .i64 0), .v (.int .i64 0), .v (.int .i64 0), .v (.int .i64 0), .v (.int .i64 0), .v (.int .i64 0), .v (.slice none 0 0), .v (.slice none 0 0), .v (.slice none 0 0), .v (.slice none 0 0), .v (.slice none 0 0), .v (.slice none 0 0), .v (.slice none 0 0)] := by kernel_rfl
@[go_sem] theorem ty33_fok : fieldsOk Try.prog 33 = true := by kernel_rfl
@[go_sem] theorem ty33_f0 : tyField Try.prog 33 0 = some (0, 24) := by kernel_rfl
@[go_sem] theorem ty33_f1 : tyField Try.prog 33 1 = some (3, 3) := by kernel_rfl
@[go_sem] theorem ty33_f2 : tyField Try.prog 33 2 = some (4, 3) := by kernel_rfl
@[go_sem] theorem ty33_f3 : tyField Try.prog 33 3 = some (5, 3) := by kernel_rfl
@[go_sem] theorem ty33_f4 : tyField Try.prog 33 4 = some (6, 27) := by kernel_rfl
@[go_sem] theorem ty33_f5 : tyField Try.prog 33 5 = some (8, 28) := by kernel_rfl
@[go_sem] theorem ty33_f6 : tyField Try.prog 33 6 = some (9, 22) := by kernel_rfl
@[go_sem] theorem ty33_f7 : tyField Try.prog 33 7 = some (10, 29) := by kernel_rfl
@[go_sem] theorem ty33_f8 : tyField Try.prog 33 8 = some (11, 22) := by kernel_rfl
@[go_sem] theorem ty33_f9 : tyField Try.prog 33 9 = some (12, 30) := by kernel_rfl
@[go_sem] theorem ty33_f10 : tyField Try.prog 33 10 = some (13, 31) := by kernel_rfl
attribute [go_sem] Try.underlying33
@[go_sem] theorem ty36_size : tySize Try.prog 36 = some 3 := by kernel_rfl
@[go_sem] theorem ty36_agg : tyAgg Try.prog 36 = some true := by kernel_rfl
@[go_sem] theorem ty36_bytes : tyBytes Try.prog 36 = some 40 := by kernel_rfl
@[go_sem] theorem ty36_z : tyZ Try.prog 36 = some [.v (.slice none 0 0), .v (.int .i64 0), .v (.int .i64 0)] := by kernel_rfl
@[go_sem] theorem ty36_fok : fieldsOk Try.prog 36 = true := by kernel_rfl
@[go_sem] theorem ty36_f0 : tyField Try.prog 36 0 = some (0, 22) := by kernel_rfl
@[go_sem] theorem ty36_f1 : tyField Try.prog 36 1 = some (1, 3) := by kernel_rfl
@[go_sem] theorem ty36_f2 : tyField Try.prog 36 2 = some (2, 3) := by kernel_rfl
attribute [go_sem] Try.underlying36
@[go_sem] theorem ty37_size : tySize Try.prog 37 = some 1 := by kernel_rfl
@[go_sem] theorem ty37_agg : tyAgg Try.prog 37 = some false := by kernel_rfl
@[go_sem] theorem ty37_bytes : tyBytes Try.prog 37 = some 24 := by kernel_rfl
@[go_sem] theorem ty37_z : tyZ Try.prog 37 = some [.v (.slice none 0 0)] := by kernel_rfl
@[go_sem] theorem ty37_elem : tyElem Try.prog 37 = some 90 := by kernel_rfl
attribute [go_sem] Try.underlying37
@[go_sem] theorem ty38_size : tySize Try.prog 38 = some 2 := by kernel_rfl
@[go_sem] theorem ty38_agg : tyAgg Try.prog 38 = some true := by kernel_rfl
@[go_sem] theorem ty38_bytes : tyBytes Try.prog 38 = some 32 := by kernel_rfl
@[go_sem] theorem ty38_z : tyZ Try.prog 38 = some [.v (.int .i64 0), .v (.slice none 0 0)] := by kernel_rfl
@[go_sem] theorem ty38_fok : fieldsOk Try.prog 38 = true := by kernel_rfl
@[go_sem] theorem ty38_f0 : tyField Try.prog 38 0 = some (0, 3) := by kernel_rfl
@[go_sem] theorem ty38_f1 : tyField Try.prog 38 1 = some (1, 37) := by kernel_rfl
attribute [go_sem] Try.underlying38
@[go_sem] theorem ty39_size : tySize Try.prog 39 = some 2 := by kernel_rfl
@[go_sem] theorem ty39_agg : tyAgg Try.prog 39 = some true := by kernel_rfl
@[go_sem] theorem ty39_bytes : tyBytes Try.prog 39 = some 32 := by kernel_rfl
@[go_sem] theorem ty39_z : tyZ Try.prog 39 = some [.v (.int .i64 0), .v (.slice none 0 0)] := by kernel_rfl
@[go_sem] theorem ty39_fok : fieldsOk Try.prog 39 = true := by kernel_rfl
@[go_sem] theorem ty39_f0 : tyField Try.prog 39 0 = some (0, 3) := by kernel_rfl
@[go_sem] theorem ty39_f1 : tyField Try.prog 39 1 = some (1, 37) := by kernel_rfl
attribute [go_sem] Try.underlying39
@[go_sem] theorem ty40_size : tySize Try.prog 40 = some 1 := by kernel_rfl
@[go_sem] theorem ty40_agg : tyAgg Try.prog 40 = some false := by kernel_rfl
@[go_sem] theorem ty40_bytes : tyBytes Try.prog 40 = some 24 := by kernel_rfl
@[go_sem] theorem ty40_z : tyZ Try.prog 40 = some [.v (.slice none 0 0)] := by kernel_rfl
@[go_sem] theorem ty40_elem : tyElem Try.prog 40 = some 88 := by kernel_rfl
attribute [go_sem] Try.underlying40
@[go_sem] theorem ty41_size : tySize Try.prog 41 = some 1 := by kernel_rfl
@[go_sem] theorem ty41_agg : tyAgg Try.prog 41 = some false := by kernel_rfl
@[go_sem] theorem ty41_bytes : tyBytes Try.prog 41 = some 24 := by kernel_rfl
@[go_sem] theorem ty41_z : tyZ Try.prog 41 = some [.v (.slice none 0 0)] := by kernel_rfl
@[go_sem] theorem ty41_elem : tyElem Try.prog 41 = some 121 := by kernel_rfl
attribute [go_sem] Try.underlying41
@[go_sem] theorem ty42_size : tySize Try.prog 42 = some 1 := by kernel_rfl
@[go_sem] theorem ty42_agg : tyAgg Try.prog 42 = some false := by kernel_rfl
@[go_sem] theorem ty42_bytes : tyBytes Try.prog 42 = some 24 := by kernel_rfl
@[go_sem] theorem ty42_z : tyZ Try.prog 42 = some [.v (.slice none 0 0)] := by kernel_rfl
@[go_sem] theorem ty42_elem : tyElem Try.prog 42 = some 68 := by kernel_rfl
attribute [go_sem] Try.underlying42
@[go_sem] theorem ty43_size : tySize Try.prog 43 = some 1 := by kernel_rfl
@[go_sem] theorem ty43_agg : tyAgg Try.prog 43 = some false := by kernel_rfl
@[go_sem] theorem ty43_bytes : tyBytes Try.prog 43 = some 24 := by kernel_rfl
@[go_sem] theorem ty43_z : tyZ Try.prog 43 = some [.v (.slice none 0 0)] := by kernel_rfl
@[go_sem] theorem ty43_elem : tyElem Try.prog 43 = some 128 := by kernel_rfl
attribute [go_sem] Try.underlying43
@[go_sem] theorem ty44_size : tySize Try.prog 44 = some 14 := by kernel_rfl
@[go_sem] theorem ty44_agg : tyAgg Try.prog 44 = some true := by kernel_rfl
@[go_sem] theorem ty44_bytes : tyBytes Try.prog 44 = some 240 := by kernel_rfl
@[go_sem] theorem ty44_z : tyZ Try.prog 44 = some [.v (.slice none 0 0), .v (.int .i64 0), .v (.int .i64 0), .v (.int .i64 0), .v (.int .i64 0), .v (.int .i64 0), .v (.int .i64 0), .v (.slice none 0 0), .v (.slice none 0 0), .v (.slice none 0 0), .v (.slice none 0 0), .v (.slice none 0 0), .v (.slice none 0 0), .v (.slice none 0 0)] := by kernel_rfl
@[go_sem] theorem ty44_fok : fieldsOk Try.prog 44 = true := by kernel_rfl
@[go_sem] theorem ty44_f0 : tyField Try.prog 44 0 = some (0, 36) := by kernel_rfl
@[go_sem] theorem ty44_f1 : tyField Try.prog 44 1 = some (3, 3) := by kernel_rfl
@[go_sem] theorem ty44_f2 : tyField Try.prog 44 2 = some (4, 3) := by kernel_rfl
@[go_sem] theorem ty44_f3 : tyField Try.prog 44 3 = some (5, 3) := by kernel_rfl
@[go_sem] theorem ty44_f4 : tyField Try.prog 44 4 = some (6, 39) := by kernel_rfl
@[go_sem] theorem ty44_f5 : tyField Try.prog 44 5 = some (8, 40) := by kernel_rfl
@[go_sem] theorem ty44_f6 : tyField Try.prog 44 6 = some (9, 22) := by kernel_rfl
@[go_sem] theorem ty44_f7 : tyField Try.prog 44 7 = some (10, 41) := by kernel_rfl
@[go_sem] theorem ty44_f8 : tyField Try.prog 44 8 = some (11, 22) := by kernel_rfl
@[go_sem] theorem ty44_f9 : tyField Try.prog 44 9 = some (12, 42) := by kernel_rfl
@[go_sem] theorem ty44_f10 : tyField Try.prog 44 10 = some (13, 43) := by kernel_rfl
attribute [go_sem] Try.underlying44
@[go_sem] theorem ty45_size : tySize Try.prog 45 = some 14 := by kernel_rfl
@[go_sem] theorem ty45_agg : tyAgg Try.prog 45 = some true := by kernel_rfl
@[go_sem] theorem ty45_bytes : tyBytes Try.prog 45 = some 240 := by kernel_rfl
@[go_sem] theorem ty45_z : tyZ Try.prog 45 = some [.v (.slice none 0 0), .v (.int .i64 0), .v (.int .i64 0), .v (.int .i64 0), .v (.int .i64 0), .v (.int .i64 0), .v (.int .i64 0), .v (.slice none 0 0), .v (.slice none 0 0), .v (.slice none 0 0), .v (.slice none 0 0), .v (.slice none 0 0), .v (.slice none 0 0), .v (.slice none 0 0)] := by kernel_rfl
@[go_sem] theorem ty45_fok : fieldsOk Try.prog 45 = true := by kernel_rfl
@[go_sem] theorem ty45_f0 : tyField Try.prog 45 0 = some (0, 36) := by kernel_rfl
@[go_sem] theorem ty45_f1 : tyField Try.prog 45 1 = some (3, 3) := by kernel_rfl
@[go_sem] theorem ty45_f2 : tyField Try.prog 45 2 = some (4, 3) := by kernel_rfl
@[go_sem] theorem ty45_f3 : tyField Try.prog 45 3 = some (5, 3) := by kernel_rfl
@[go_sem] theorem ty45_f4 : tyField Try.prog 45 4 = some (6, 39) := by kernel_rfl
@[go_sem] theorem ty45_f5 : tyField Try.prog 45 5 = some (8, 40) := by kernel_rfl
@[go_sem] theorem ty45_f6 : tyField Try.prog 45 6 = some (9, 22) := by kernel_rfl
@[go_sem] theorem ty45_f7 : tyField Try.prog 45 7 = some (10, 41) := by kernel_rfl
@[go_sem] theorem ty45_f8 : tyField Try.prog 45 8 = some (11, 22) := by kernel_rfl
@[go_sem] theorem ty45_f9 : tyField Try.prog 45 9 = some (12, 42) := by kernel_rfl
@[go_sem] theorem ty45_f10 : tyField Try.prog 45 10 = some (13, 43) := by kernel_rfl
attribute [go_sem] Try.underlying45
@[go_sem] theorem ty58_size : tySize Try.prog 58 = some 1 := by kernel_rfl
@[go_sem] theorem ty58_agg : tyAgg Try.prog 58 = some false := by kernel_rfl
@[go_sem] theorem ty58_bytes : tyBytes Try.prog 58 = some 24 := by kernel_rfl
@[go_sem] theorem ty58_z : tyZ Try.prog 58 = some [.v (.slice none 0 0)] := by kernel_rfl
@[go_sem] theorem ty58_elem : tyElem Try.prog 58 = some 60 := by kernel_rfl
attribute [go_sem] Try.underlying58
@[go_sem] theorem ty59_size : tySize Try.prog 59 = some 3 := by kernel_rfl
@[go_sem] theorem ty59_agg : tyAgg Try.prog 59 = some true := by kernel_rfl
@[go_sem] theorem ty59_bytes : tyBytes Try.prog 59 = some 32 := by kernel_rfl
@[go_sem] theorem ty59_z : tyZ Try.prog 59 = some [.v (.int .i64 0), .v (.int .i64 0), .v (.string ByteArray.empty)] := by kernel_rfl
@[go_sem] theorem ty59_fok : fieldsOk Try.prog 59 = true := by kernel_rfl
@[go_sem] theorem ty59_f0 : tyField Try.prog 59 0 = some (0, 3) := by kernel_rfl
@[go_sem] theorem ty59_f1 : tyField Try.prog 59 1 = some (1, 3) := by kernel_rfl
@[go_sem] theorem ty59_f2 : tyField Try.prog 59 2 = some (2, 9) := by kernel_rfl
attribute [go_sem] Try.underlying59
@[go_sem] theorem ty60_size : tySize Try.prog 60 = some 3 := by kernel_rfl
@[go_sem] theorem ty60_agg : tyAgg Try.prog 60 = some true := by kernel_rfl
@[go_sem] theorem ty60_bytes : tyBytes Try.prog 60 = some 32 := by kernel_rfl
@[go_sem] theorem ty60_z : tyZ Try.prog 60 = some [.v (.int .i64 0), .v (.int .i64 0), .v (.string ByteArray.empty)] := by kernel_rfl
@[go_sem] theorem ty60_fok : fieldsOk Try.prog 60 = true := by kernel_rfl
@[go_sem] theorem ty60_f0 : tyField Try.prog 60 0 = some (0, 3) := by kernel_rfl
@[go_sem] theorem ty60_f1 : tyField Try.prog 60 1 = some (1, 3) := by kernel_rfl
@[go_sem] theorem ty60_f2 : tyField Try.prog 60 2 = some (2, 9) := by kernel_rfl
attribute [go_sem] Try.underlying60
@[go_sem] theorem ty61_size : tySize Try.prog 61 = some 1 := by kernel_rfl
@[go_sem] theorem ty61_agg : tyAgg Try.prog 61 = some false := by kernel_rfl
@[go_sem] theorem ty61_bytes : tyBytes Try.prog 61 = some 24 := by kernel_rfl
@[go_sem] theorem ty61_z : tyZ Try.prog 61 = some [.v (.slice none 0 0)] := by kernel_rfl
@[go_sem] theorem ty61_elem : tyElem Try.prog 61 = some 63 := by kernel_rfl
attribute [go_sem] Try.underlying61
@[go_sem] theorem ty62_size : tySize Try.prog 62 = some 7 := by kernel_rfl
@[go_sem] theorem ty62_agg : tyAgg Try.prog 62 = some true := by kernel_rfl
@[go_sem] theorem ty62_bytes : tyBytes Try.prog 62 = some 80 := by kernel_rfl
@[go_sem] theorem ty62_z : tyZ Try.prog 62 = some [.v (.int .i64 0), .v (.int .i64 0), .v (.int .i64 0), .v (.int .i64 0), .v (.int .i64 0), .v (.string ByteArray.empty), .v (.slice none 0 0)] := by kernel_rfl
@[go_sem] theorem ty62_fok : fieldsOk Try.prog 62 = true := by kernel_rfl
@[go_sem] theorem ty62_f0 : tyField Try.prog 62 0 = some (0, 3) := by kernel_rfl
@[go_sem] theorem ty62_f1 : tyField Try.prog 62 1 = some (1, 3) := by kernel_rfl
@[go_sem] theorem ty62_f2 : tyField Try.prog 62 2 = some (2, 3) := by kernel_rfl
@[go_sem] theorem ty62_f3 : tyField Try.prog 62 3 = some (3, 60) := by kernel_rfl
@[go_sem] theorem ty62_f4 : tyField Try.prog 62 4 = some (6, 61) := by kernel_rfl
attribute [go_sem] Try.underlying62
@[go_sem] theorem ty63_size : tySize Try.prog 63 = some 7 := by kernel_rfl
@[go_sem] theorem ty63_agg : tyAgg Try.prog 63 = some true := by kernel_rfl
@[go_sem] theorem ty63_bytes : tyBytes Try.prog 63 = some 80 := by kernel_rfl
@[go_sem] theorem ty63_z : tyZ Try.prog 63 = some [.v (.int .i64 0), .v (.int .i64 0), .v (.int .i64 0), .v (.int .i64 0), .v (.int .i64 0), .v (.string ByteArray.empty), .v (.slice none 0 0)] := by kernel_rfl
@[go_sem] theorem ty63_fok : fieldsOk Try.prog 63 = true := by kernel_rfl
@[go_sem] theorem ty63_f0 : tyField Try.prog 63 0 = some (0, 3) := by kernel_rfl
@[go_sem] theorem ty63_f1 : tyField Try.prog 63 1 = some (1, 3) := by kernel_rfl
@[go_sem] theorem ty63_f2 : tyField Try.prog 63 2 = some (2, 3) := by kernel_rfl
@[go_sem] theorem ty63_f3 : tyField Try.prog 63 3 = some (3, 60) := by kernel_rfl
@[go_sem] theorem ty63_f4 : tyField Try.prog 63 4 = some (6, 61) := by kernel_rfl
attribute [go_sem] Try.underlying63
@[go_sem] theorem ty64_size : tySize Try.prog 64 = some 10 := by kernel_rfl
@[go_sem] theorem ty64_agg : tyAgg Try.prog 64 = some true := by kernel_rfl
@[go_sem] theorem ty64_bytes : tyBytes Try.prog 64 = some 120 := by kernel_rfl
@[go_sem] theorem ty64_z : tyZ Try.prog 64 = some [.v (.int .i64 0), .v (.int .i64 0), .v (.int .i64 0), .v (.int .i64 0), .v (.int .i64 0), .v (.int .i64 0), .v (.string ByteArray.empty), .v (.slice none 0 0), .v (.int .i64 0), .v (.slice none 0 0)] := by kernel_rfl
@[go_sem] theorem ty64_fok : fieldsOk Try.prog 64 = true := by kernel_rfl
@[go_sem] theorem ty64_f0 : tyField Try.prog 64 0 = some (0, 3) := by kernel_rfl
@[go_sem] theorem ty64_f1 : tyField Try.prog 64 1 = some (1, 63) := by kernel_rfl
@[go_sem] theorem ty64_f2 : tyField Try.prog 64 2 = some (8, 3) := by kernel_rfl
@[go_sem] theorem ty64_f3 : tyField Try.prog 64 3 = some (9, 22) := by kernel_rfl
attribute [go_sem] Try.underlying64
@[go_sem] theorem ty65_size : tySize Try.prog 65 = some 10 := by kernel_rfl
@[go_sem] theorem ty65_agg : tyAgg Try.prog 65 = some true := by kernel_rfl
@[go_sem] theorem ty65_bytes : tyBytes Try.prog 65 = some 120 := by kernel_rfl
@[go_sem] theorem ty65_z : tyZ Try.prog 65 = some [.v (.int .i64 0), .v (.int .i64 0), .v (.int .i64 0), .v (.int .i64 0), .v (.int .i64 0), .v (.int .i64 0), .v (.string ByteArray.empty), .v (.slice none 0 0), .v (.int .i64 0), .v (.slice none 0 0)] := by kernel_rfl
@[go_sem] theorem ty65_fok : fieldsOk Try.prog 65 = true := by kernel_rfl
@[go_sem] theorem ty65_f0 : tyField Try.prog 65 0 = some (0, 3) := by kernel_rfl
@[go_sem] theorem ty65_f1 : tyField Try.prog 65 1 = some (1, 63) := by kernel_rfl
@[go_sem] theorem ty65_f2 : tyField Try.prog 65 2 = some (8, 3) := by kernel_rfl
@[go_sem] theorem ty65_f3 : tyField Try.prog 65 3 = some (9, 22) := by kernel_rfl
attribute [go_sem] Try.underlying65
@[go_sem] theorem ty66_size : tySize Try.prog 66 = some 1 := by kernel_rfl
@[go_sem] theorem ty66_agg : tyAgg Try.prog 66 = some false := by kernel_rfl
@[go_sem] theorem ty66_bytes : tyBytes Try.prog 66 = some 24 := by kernel_rfl
@[go_sem] theorem ty66_z : tyZ Try.prog 66 = some [.v (.slice none 0 0)] := by kernel_rfl
@[go_sem] theorem ty66_elem : tyElem Try.prog 66 = some 167 := by kernel_rfl
attribute [go_sem] Try.underlying66
@[go_sem] theorem ty67_size : tySize Try.prog 67 = some 25 := by kernel_rfl
@[go_sem] theorem ty67_agg : tyAgg Try.prog 67 = some true := by kernel_rfl
@[go_sem] theorem ty67_bytes : tyBytes Try.prog 67 = some 288 := by kernel_rfl
@[go_sem] theorem ty67_z : tyZ Try.prog 67 = some [.v (.int .i64 0), .v (.int .i64 0), .v (.int .i64 0), .v (.slice none 0 0), .v (.int .i64 0), .v (.int .i64 0), .v (.int .i64 0), .v (.int .i64 0), .v (.int .i64 0), .v (.int .i64 0), .v (.int .i64 0), .v (.string ByteArray.empty), .v (.slice none 0 0), .v (.int .i64 0), .v (.slice none 0 0), .v (.int .i64 0), .v (.int .i64 0), .v (.slice none 0 0), .v (.int .i64 0), .v (.int .i64 0), .v (.int .i64 0), .v (.int .i64 0), .v (.int .i64 0), .v (.bool false), .v (.slice none 0 0)] := by kernel_rfl
@[go_sem] theorem ty67_fok : fieldsOk Try.prog 67 = true := by kernel_rfl
@[go_sem] theorem ty67_f0 : tyField Try.prog 67 0 = some (0, 3) := by kernel_rfl
@[go_sem] theorem ty67_f1 : tyField Try.prog 67 1 = some (1, 3) := by kernel_rfl
@[go_sem] theorem ty67_f2 : tyField Try.prog 67 2 = some (2, 3) := by kernel_rfl
@[go_sem] theorem ty67_f3 : tyField Try.prog 67 3 = some (3, 58) := by kernel_rfl
@[go_sem] theorem ty67_f4 : tyField Try.prog 67 4 = some (4, 3) := by kernel_rfl
@[go_sem] theorem ty67_f5 : tyField Try.prog 67 5 = some (5, 65) := by kernel_rfl
@[go_sem] theorem ty67_f6 : tyField Try.prog 67 6 = some (15, 3) := by kernel_rfl
@[go_sem] theorem ty67_f7 : tyField Try.prog 67 7 = some (16, 3) := by kernel_rfl
@[go_sem] theorem ty67_f8 : tyField Try.prog 67 8 = some (17, 37) := by kernel_rfl
@[go_sem] theorem ty67_f9 : tyField Try.prog 67 9 = some (18, 3) := by kernel_rfl
@[go_sem] theorem ty67_f10 : tyField Try.prog 67 10 = some (19, 3) := by kernel_rfl
@[go_sem] theorem ty67_f11 : tyField Try.prog 67 11 = some (20, 3) := by kernel_rfl
@[go_sem] theorem ty67_f12 : tyField Try.prog 67 12 = some (21, 3) := by kernel_rfl
@[go_sem] theorem ty67_f13 : tyField Try.prog 67 13 = some (22, 3) := by kernel_rfl
@[go_sem] theorem ty67_f14 : tyField Try.prog 67 14 = some (23, 4) := by kernel_rfl
@[go_sem] theorem ty67_f15 : tyField Try.prog 67 15 = some (24, 66) := by kernel_rfl
attribute [go_sem] Try.underlying67
@[go_sem] theorem ty68_size : tySize Try.prog 68 = some 25 := by kernel_rfl
@[go_sem] theorem ty68_agg : tyAgg Try.prog 68 = some true := by kernel_rfl
@[go_sem] theorem ty68_bytes : tyBytes Try.prog 68 = some 288 := by kernel_rfl
@[go_sem] theorem ty68_z : tyZ Try.prog 68 = some [.v (.int .i64 0), .v (.int .i64 0), .v (.int .i64 0), .v (.slice none 0 0), .v (.int .i64 0), .v (.int .i64 0), .v (.int .i64 0), .v (.int .i64 0), .v (.int .i64 0), .v (.int .i64 0), .v (.int .i64 0), .v (.string ByteArray.empty), .v (.slice none 0 0), .v (.int .i64 0), .v (.slice none 0 0), .v (.int .i64 0), .v (.int .i64 0), .v (.slice none 0 0), .v (.int .i64 0), .v (.int .i64 0), .v (.int .i64 0), .v (.int .i64 0), .v (.int .i64 0), .v (.bool false), .v (.slice none 0 0)] := by kernel_rfl
@[go_sem] theorem ty68_fok : fieldsOk Try.prog 68 = true := by kernel_rfl
@[go_sem] theorem ty68_f0 : tyField Try.prog 68 0 = some (0, 3) := by kernel_rfl
@[go_sem] theorem ty68_f1 : tyField Try.prog 68 1 = some (1, 3) := by kernel_rfl
@[go_sem] theorem ty68_f2 : tyField Try.prog 68 2 = some (2, 3) := by kernel_rfl
@[go_sem] theorem ty68_f3 : tyField Try.prog 68 3 = some (3, 58) := by kernel_rfl
@[go_sem] theorem ty68_f4 : tyField Try.prog 68 4 = some (4, 3) := by kernel_rfl
@[go_sem] theorem ty68_f5 : tyField Try.prog 68 5 = some (5, 65) := by kernel_rfl
@[go_sem] theorem ty68_f6 : tyField Try.prog 68 6 = some (15, 3) := by kernel_rfl
@[go_sem] theorem ty68_f7 : tyField Try.prog 68 7 = some (16, 3) := by kernel_rfl
@[go_sem] theorem ty68_f8 : tyField Try.prog 68 8 = some (17, 37) := by kernel_rfl
@[go_sem] theorem ty68_f9 : tyField Try.prog 68 9 = some (18, 3) := by kernel_rfl
@[go_sem] theorem ty68_f10 : tyField Try.prog 68 10 = some (19, 3) := by kernel_rfl
@[go_sem] theorem ty68_f11 : tyField Try.prog 68 11 = some (20, 3) := by kernel_rfl
@[go_sem] theorem ty68_f12 : tyField Try.prog 68 12 = some (21, 3) := by kernel_rfl
@[go_sem] theorem ty68_f13 : tyField Try.prog 68 13 = some (22, 3) := by kernel_rfl
@[go_sem] theorem ty68_f14 : tyField Try.prog 68 14 = some (23, 4) := by kernel_rfl
@[go_sem] theorem ty68_f15 : tyField Try.prog 68 15 = some (24, 66) := by kernel_rfl
attribute [go_sem] Try.underlying68
@[go_sem] theorem ty83_size : tySize Try.prog 83 = some 1 := by kernel_rfl
@[go_sem] theorem ty83_agg : tyAgg Try.prog 83 = some false := by kernel_rfl
@[go_sem] theorem ty83_bytes : tyBytes Try.prog 83 = some 24 := by kernel_rfl
@[go_sem] theorem ty83_z : tyZ Try.prog 83 = some [.v (.slice none 0 0)] := by kernel_rfl
@[go_sem] theorem ty83_elem : tyElem Try.prog 83 = some 178 := by kernel_rfl
attribute [go_sem] Try.underlying83
@[go_sem] theorem ty84_size : tySize Try.prog 84 = some 2 := by kernel_rfl
@[go_sem] theorem ty84_agg : tyAgg Try.prog 84 = some true := by kernel_rfl
@[go_sem] theorem ty84_bytes : tyBytes Try.prog 84 = some 32 := by kernel_rfl
@[go_sem] theorem ty84_z : tyZ Try.prog 84 = some [.v (.int .i64 0), .v (.slice none 0 0)] := by kernel_rfl
@[go_sem] theorem ty84_fok : fieldsOk Try.prog 84 = true := by kernel_rfl
@[go_sem] theorem ty84_f0 : tyField Try.prog 84 0 = some (0, 3) := by kernel_rfl
@[go_sem] theorem ty84_f1 : tyField Try.prog 84 1 = some (1, 83) := by kernel_rfl
attribute [go_sem] Try.underlying84
@[go_sem] theorem ty85_size : tySize Try.prog 85 = some 2 := by kernel_rfl
@[go_sem] theorem ty85_agg : tyAgg Try.prog 85 = some true := by kernel_rfl
@[go_sem] theorem ty85_bytes : tyBytes Try.prog 85 = some 32 := by kernel_rfl
@[go_sem] theorem ty85_z : tyZ Try.prog 85 = some [.v (.int .i64 0), .v (.slice none 0 0)] := by kernel_rfl
@[go_sem] theorem ty85_fok : fieldsOk Try.prog 85 = true := by kernel_rfl
@[go_sem] theorem ty85_f0 : tyField Try.prog 85 0 = some (0, 3) := by kernel_rfl
@[go_sem] theorem ty85_f1 : tyField Try.prog 85 1 = some (1, 83) := by kernel_rfl
attribute [go_sem] Try.underlying85
@[go_sem] theorem ty86_size : tySize Try.prog 86 = some 1 := by kernel_rfl
@[go_sem] theorem ty86_agg : tyAgg Try.prog 86 = some false := by kernel_rfl
@[go_sem] theorem ty86_bytes : tyBytes Try.prog 86 = some 24 := by kernel_rfl
@[go_sem] theorem ty86_z : tyZ Try.prog 86 = some [.v (.slice none 0 0)] := by kernel_rfl
@[go_sem] theorem ty86_elem : tyElem Try.prog 86 = some 5 := by kernel_rfl
attribute [go_sem] Try.underlying86
@[go_sem] theorem ty87_size : tySize Try.prog 87 = some 5 := by kernel_rfl
@[go_sem] theorem ty87_agg : tyAgg Try.prog 87 = some true := by kernel_rfl
@[go_sem] theorem ty87_bytes : tyBytes Try.prog 87 = some 72 := by kernel_rfl
@[go_sem] theorem ty87_z : tyZ Try.prog 87 = some [.v (.int .i64 0), .v (.int .i64 0), .v (.int .i64 0), .v (.slice none 0 0), .v (.slice none 0 0)] := by kernel_rfl
@[go_sem] theorem ty87_fok : fieldsOk Try.prog 87 = true := by kernel_rfl
@[go_sem] theorem ty87_f0 : tyField Try.prog 87 0 = some (0, 3) := by kernel_rfl
@[go_sem] theorem ty87_f1 : tyField Try.prog 87 1 = some (1, 3) := by kernel_rfl
@[go_sem] theorem ty87_f2 : tyField Try.prog 87 2 = some (2, 85) := by kernel_rfl
@[go_sem] theorem ty87_f3 : tyField Try.prog 87 3 = some (4, 86) := by kernel_rfl
attribute [go_sem] Try.underlying87
@[go_sem] theorem ty88_size : tySize Try.prog 88 = some 5 := by kernel_rfl
@[go_sem] theorem ty88_agg : tyAgg Try.prog 88 = some true := by kernel_rfl
@[go_sem] theorem ty88_bytes : tyBytes Try.prog 88 = some 72 := by kernel_rfl
@[go_sem] theorem ty88_z : tyZ Try.prog 88 = some [.v (.int .i64 0), .v (.int .i64 0), .v (.int .i64 0), .v (.slice none 0 0), .v (.slice none 0 0)] := by kernel_rfl
@[go_sem] theorem ty88_fok : fieldsOk Try.prog 88 = true := by kernel_rfl
@[go_sem] theorem ty88_f0 : tyField Try.prog 88 0 = some (0, 3) := by kernel_rfl
@[go_sem] theorem ty88_f1 : tyField Try.prog 88 1 = some (1, 3) := by kernel_rfl
@[go_sem] theorem ty88_f2 : tyField Try.prog 88 2 = some (2, 85) := by kernel_rfl
@[go_sem] theorem ty88_f3 : tyField Try.prog 88 3 = some (4, 86) := by kernel_rfl
attribute [go_sem] Try.underlying88
@[go_sem] theorem ty89_size : tySize Try.prog 89 = some 5 := by kernel_rfl
@[go_sem] theorem ty89_agg : tyAgg Try.prog 89 = some true := by kernel_rfl
@[go_sem] theorem ty89_bytes : tyBytes Try.prog 89 = some 40 := by kernel_rfl
@[go_sem] theorem ty89_z : tyZ Try.prog 89 = some [.v (.int .i64 0), .v (.int .i64 0), .v (.int .i64 0), .v (.int .i64 0), .v (.int .i64 0)] := by kernel_rfl
@[go_sem] theorem ty89_fok : fieldsOk Try.prog 89 = true := by kernel_rfl
@[go_sem] theorem ty89_f0 : tyField Try.prog 89 0 = some (0, 3) := by kernel_rfl
@[go_sem] theorem ty89_f1 : tyField Try.prog 89 1 = some (1, 3) := by kernel_rfl
@[go_sem] theorem ty89_f2 : tyField Try.prog 89 2 = some (2, 3) := by kernel_rfl
@[go_sem] theorem ty89_f3 : tyField Try.prog 89 3 = some (3, 3) := by kernel_rfl
@[go_sem] theorem ty89_f4 : tyField Try.prog 89 4 = some (4, 3) := by kernel_rfl
attribute [go_sem] Try.underlying89
@[go_sem] theorem ty90_size : tySize Try.prog 90 = some 5 := by kernel_rfl
@[go_sem] theorem ty90_agg : tyAgg Try.prog 90 = some true := by kernel_rfl
@[go_sem] theorem ty90_bytes : tyBytes Try.prog 90 = some 40 := by kernel_rfl
@[go_sem] theorem ty90_z : tyZ Try.prog 90 = some [.v (.int .i64 0), .v (.int .i64 0), .v (.int .i64 0), .v (.int .i64 0), .v (.int .i64 0)] := by kernel_rfl
@[go_sem] theorem ty90_fok : fieldsOk Try.prog 90 = true := by kernel_rfl
@[go_sem] theorem ty90_f0 : tyField Try.prog 90 0 = some (0, 3) := by kernel_rfl
@[go_sem] theorem ty90_f1 : tyField Try.prog 90 1 = some (1, 3) := by kernel_rfl
@[go_sem] theorem ty90_f2 : tyField Try.prog 90 2 = some (2, 3) := by kernel_rfl
@[go_sem] theorem ty90_f3 : tyField Try.prog 90 3 = some (3, 3) := by kernel_rfl
@[go_sem] theorem ty90_f4 : tyField Try.prog 90 4 = some (4, 3) := by kernel_rfl
attribute [go_sem] Try.underlying90
@[go_sem] theorem ty94_size : tySize Try.prog 94 = some 1 := by kernel_rfl
@[go_sem] theorem ty94_agg : tyAgg Try.prog 94 = some false := by kernel_rfl
@[go_sem] theorem ty94_bytes : tyBytes Try.prog 94 = some 24 := by kernel_rfl
@[go_sem] theorem ty94_z : tyZ Try.prog 94 = some [.v (.slice none 0 0)] := by kernel_rfl
@[go_sem] theorem ty94_elem : tyElem Try.prog 94 = some 37 := by kernel_rfl
attribute [go_sem] Try.underlying94
@[go_sem] theorem ty97_size : tySize Try.prog 97 = some 1 := by kernel_rfl
@[go_sem] theorem ty97_agg : tyAgg Try.prog 97 = some false := by kernel_rfl
@[go_sem] theorem ty97_bytes : tyBytes Try.prog 97 = some 24 := by kernel_rfl
@[go_sem] theorem ty97_z : tyZ Try.prog 97 = some [.v (.slice none 0 0)] := by kernel_rfl
@[go_sem] theorem ty97_elem : tyElem Try.prog 97 = some 175 := by kernel_rfl
attribute [go_sem] Try.underlying97
@[go_sem] theorem ty98_size : tySize Try.prog 98 = some 2 := by kernel_rfl
@[go_sem] theorem ty98_agg : tyAgg Try.prog 98 = some true := by kernel_rfl
@[go_sem] theorem ty98_bytes : tyBytes Try.prog 98 = some 32 := by kernel_rfl
@[go_sem] theorem ty98_z : tyZ Try.prog 98 = some [.v (.int .i64 0), .v (.slice none 0 0)] := by kernel_rfl
@[go_sem] theorem ty98_fok : fieldsOk Try.prog 98 = true := by kernel_rfl
@[go_sem] theorem ty98_f0 : tyField Try.prog 98 0 = some (0, 3) := by kernel_rfl
@[go_sem] theorem ty98_f1 : tyField Try.prog 98 1 = some (1, 97) := by kernel_rfl
attribute [go_sem] Try.underlying98
@[go_sem] theorem ty99_size : tySize Try.prog 99 = some 2 := by kernel_rfl
@[go_sem] theorem ty99_agg : tyAgg Try.prog 99 = some true := by kernel_rfl
@[go_sem] theorem ty99_bytes : tyBytes Try.prog 99 = some 32 := by kernel_rfl
@[go_sem] theorem ty99_z : tyZ Try.prog 99 = some [.v (.int .i64 0), .v (.slice none 0 0)] := by kernel_rfl
@[go_sem] theorem ty99_fok : fieldsOk Try.prog 99 = true := by kernel_rfl
@[go_sem] theorem ty99_f0 : tyField Try.prog 99 0 = some (0, 3) := by kernel_rfl
@[go_sem] theorem ty99_f1 : tyField Try.prog 99 1 = some (1, 97) := by kernel_rfl
attribute [go_sem] Try.underlying99
@[go_sem] theorem ty100_size : tySize Try.prog 100 = some 5 := by kernel_rfl
@[go_sem] theorem ty100_agg : tyAgg Try.prog 100 = some true := by kernel_rfl
@[go_sem] theorem ty100_bytes : tyBytes Try.prog 100 = some 72 := by kernel_rfl
@[go_sem] theorem ty100_z : tyZ Try.prog 100 = some [.v (.int .i64 0), .v (.int .i64 0), .v (.int .i64 0), .v (.slice none 0 0), .v (.slice none 0 0)] := by kernel_rfl
@[go_sem] theorem ty100_fok : fieldsOk Try.prog 100 = true := by kernel_rfl
@[go_sem] theorem ty100_f0 : tyField Try.prog 100 0 = some (0, 3) := by kernel_rfl
@[go_sem] theorem ty100_f1 : tyField Try.prog 100 1 = some (1, 3) := by kernel_rfl
@[go_sem] theorem ty100_f2 : tyField Try.prog 100 2 = some (2, 99) := by kernel_rfl
@[go_sem] theorem ty100_f3 : tyField Try.prog 100 3 = some (4, 86) := by kernel_rfl
attribute [go_sem] Try.underlying100
@[go_sem] theorem ty101_size : tySize Try.prog 101 = some 5 := by kernel_rfl
@[go_sem] theorem ty101_agg : tyAgg Try.prog 101 = some true := by kernel_rfl
@[go_sem] theorem ty101_bytes : tyBytes Try.prog 101 = some 72 := by kernel_rfl
@[go_sem] theorem ty101_z : tyZ Try.prog 101 = some [.v (.int .i64 0), .v (.int .i64 0), .v (.int .i64 0), .v (.slice none 0 0), .v (.slice none 0 0)] := by kernel_rfl
@[go_sem] theorem ty101_fok : fieldsOk Try.prog 101 = true := by kernel_rfl
@[go_sem] theorem ty101_f0 : tyField Try.prog 101 0 = some (0, 3) := by kernel_rfl
@[go_sem] theorem ty101_f1 : tyField Try.prog 101 1 = some (1, 3) := by kernel_rfl
@[go_sem] theorem ty101_f2 : tyField Try.prog 101 2 = some (2, 99) := by kernel_rfl
@[go_sem] theorem ty101_f3 : tyField Try.prog 101 3 = some (4, 86) := by kernel_rfl
attribute [go_sem] Try.underlying101
@[go_sem] theorem ty103_size : tySize Try.prog 103 = some 1 := by kernel_rfl
@[go_sem] theorem ty103_agg : tyAgg Try.prog 103 = some false := by kernel_rfl
@[go_sem] theorem ty103_bytes : tyBytes Try.prog 103 = some 24 := by kernel_rfl
@[go_sem] theorem ty103_z : tyZ Try.prog 103 = some [.v (.slice none 0 0)] := by kernel_rfl
@[go_sem] theorem ty103_elem : tyElem Try.prog 103 = some 104 := by kernel_rfl
attribute [go_sem] Try.underlying103
@[go_sem] theorem ty104_size : tySize Try.prog 104 = some 3 := by kernel_rfl
@[go_sem] theorem ty104_agg : tyAgg Try.prog 104 = some true := by kernel_rfl
@[go_sem] theorem ty104_bytes : tyBytes Try.prog 104 = some 32 := by kernel_rfl
@[go_sem] theorem ty104_z : tyZ Try.prog 104 = some [.v (.int .i64 0), .v (.int .i64 0), .v (.string ByteArray.empty)] := by kernel_rfl
@[go_sem] theorem ty104_fok : fieldsOk Try.prog 104 = true := by kernel_rfl
@[go_sem] theorem ty104_f0 : tyField Try.prog 104 0 = some (0, 3) := by kernel_rfl
@[go_sem] theorem ty104_f1 : tyField Try.prog 104 1 = some (1, 3) := by kernel_rfl
@[go_sem] theorem ty104_f2 : tyField Try.prog 104 2 = some (2, 9) := by kernel_rfl
attribute [go_sem] Try.underlying104
@[go_sem] theorem ty105_size : tySize Try.prog 105 = some 1 := by kernel_rfl
@[go_sem] theorem ty105_agg : tyAgg Try.prog 105 = some false := by kernel_rfl
@[go_sem] theorem ty105_bytes : tyBytes Try.prog 105 = some 24 := by kernel_rfl
@[go_sem] theorem ty105_z : tyZ Try.prog 105 = some [.v (.slice none 0 0)] := by kernel_rfl
@[go_sem] theorem ty105_elem : tyElem Try.prog 105 = some 107 := by kernel_rfl
attribute [go_sem] Try.underlying105
@[go_sem] theorem ty106_size : tySize Try.prog 106 = some 7 := by kernel_rfl
@[go_sem] theorem ty106_agg : tyAgg Try.prog 106 = some true := by kernel_rfl
@[go_sem] theorem ty106_bytes : tyBytes Try.prog 106 = some 80 := by kernel_rfl
@[go_sem] theorem ty106_z : tyZ Try.prog 106 = some [.v (.int .i64 0), .v (.int .i64 0), .v (.int .i64 0), .v (.int .i64 0), .v (.int .i64 0), .v (.string ByteArray.empty), .v (.slice none 0 0)] := by kernel_rfl
@[go_sem] theorem ty106_fok : fieldsOk Try.prog 106 = true := by kernel_rfl
@[go_sem] theorem ty106_f0 : tyField Try.prog 106 0 = some (0, 3) := by kernel_rfl
@[go_sem] theorem ty106_f1 : tyField Try.prog 106 1 = some (1, 3) := by kernel_rfl
@[go_sem] theorem ty106_f2 : tyField Try.prog 106 2 = some (2, 3) := by kernel_rfl
@[go_sem] theorem ty106_f3 : tyField Try.prog 106 3 = some (3, 104) := by kernel_rfl
@[go_sem] theorem ty106_f4 : tyField Try.prog 106 4 = some (6, 105) := by kernel_rfl
attribute [go_sem] Try.underlying106
@[go_sem] theorem ty107_size : tySize Try.prog 107 = some 7 := by kernel_rfl
@[go_sem] theorem ty107_agg : tyAgg Try.prog 107 = some true := by kernel_rfl
@[go_sem] theorem ty107_bytes : tyBytes Try.prog 107 = some 80 := by kernel_rfl
@[go_sem] theorem ty107_z : tyZ Try.prog 107 = some [.v (.int .i64 0), .v (.int .i64 0), .v (.int .i64 0), .v (.int .i64 0), .v (.int .i64 0), .v (.string ByteArray.empty), .v (.slice none 0 0)] := by kernel_rfl
@[go_sem] theorem ty107_fok : fieldsOk Try.prog 107 = true := by kernel_rfl
@[go_sem] theorem ty107_f0 : tyField Try.prog 107 0 = some (0, 3) := by kernel_rfl
@[go_sem] theorem ty107_f1 : tyField Try.prog 107 1 = some (1, 3) := by kernel_rfl
@[go_sem] theorem ty107_f2 : tyField Try.prog 107 2 = some (2, 3) := by kernel_rfl
@[go_sem] theorem ty107_f3 : tyField Try.prog 107 3 = some (3, 104) := by kernel_rfl
@[go_sem] theorem ty107_f4 : tyField Try.prog 107 4 = some (6, 105) := by kernel_rfl
attribute [go_sem] Try.underlying107
@[go_sem] theorem ty108_size : tySize Try.prog 108 = some 10 := by kernel_rfl
@[go_sem] theorem ty108_agg : tyAgg Try.prog 108 = some true := by kernel_rfl
@[go_sem] theorem ty108_bytes : tyBytes Try.prog 108 = some 120 := by kernel_rfl
@[go_sem] theorem ty108_z : tyZ Try.prog 108 = some [.v (.int .i64 0), .v (.int .i64 0), .v (.int .i64 0), .v (.int .i64 0), .v (.int .i64 0), .v (.int .i64 0), .v (.string ByteArray.empty), .v (.slice none 0 0), .v (.int .i64 0), .v (.slice none 0 0)] := by kernel_rfl
@[go_sem] theorem ty108_fok : fieldsOk Try.prog 108 = true := by kernel_rfl
@[go_sem] theorem ty108_f0 : tyField Try.prog 108 0 = some (0, 3) := by kernel_rfl
@[go_sem] theorem ty108_f1 : tyField Try.prog 108 1 = some (1, 107) := by kernel_rfl
@[go_sem] theorem ty108_f2 : tyField Try.prog 108 2 = some (8, 3) := by kernel_rfl
@[go_sem] theorem ty108_f3 : tyField Try.prog 108 3 = some (9, 22) := by kernel_rfl
attribute [go_sem] Try.underlying108
@[go_sem] theorem ty109_size : tySize Try.prog 109 = some 10 := by kernel_rfl
@[go_sem] theorem ty109_agg : tyAgg Try.prog 109 = some true := by kernel_rfl
@[go_sem] theorem ty109_bytes : tyBytes Try.prog 109 = some 120 := by kernel_rfl
@[go_sem] theorem ty109_z : tyZ Try.prog 109 = some [.v (.int .i64 0), .v (.int .i64 0), .v (.int .i64 0), .v (.int .i64 0), .v (.int .i64 0), .v (.int .i64 0), .v (.string ByteArray.empty), .v (.slice none 0 0), .v (.int .i64 0), .v (.slice none 0 0)] := by kernel_rfl
@[go_sem] theorem ty109_fok : fieldsOk Try.prog 109 = true := by kernel_rfl
@[go_sem] theorem ty109_f0 : tyField Try.prog 109 0 = some (0, 3) := by kernel_rfl
@[go_sem] theorem ty109_f1 : tyField Try.prog 109 1 = some (1, 107) := by kernel_rfl
@[go_sem] theorem ty109_f2 : tyField Try.prog 109 2 = some (8, 3) := by kernel_rfl
@[go_sem] theorem ty109_f3 : tyField Try.prog 109 3 = some (9, 22) := by kernel_rfl
attribute [go_sem] Try.underlying109
@[go_sem] theorem ty110_size : tySize Try.prog 110 = some 1 := by kernel_rfl
@[go_sem] theorem ty110_agg : tyAgg Try.prog 110 = some false := by kernel_rfl
@[go_sem] theorem ty110_bytes : tyBytes Try.prog 110 = some 24 := by kernel_rfl
@[go_sem] theorem ty110_z : tyZ Try.prog 110 = some [.v (.slice none 0 0)] := by kernel_rfl
@[go_sem] theorem ty110_elem : tyElem Try.prog 110 = some 162 := by kernel_rfl
attribute [go_sem] Try.underlying110
@[go_sem] theorem ty111_size : tySize Try.prog 111 = some 25 := by kernel_rfl
@[go_sem] theorem ty111_agg : tyAgg Try.prog 111 = some true := by kernel_rfl
@[go_sem] theorem ty111_bytes : tyBytes Try.prog 111 = some 288 := by kernel_rfl
@[go_sem] theorem ty111_z : tyZ Try.prog 111 = some [.v (.int .i64 0), .v (.int .i64 0), .v (.int .i64 0), .v (.slice none 0 0), .v (.int .i64 0), .v (.int .i64 0), .v (.int .i64 0), .v (.int .i64 0), .v (.int .i64 0), .v (.int .i64 0), .v (.int .i64 0), .v (.string ByteArray.empty), .v (.slice none 0 0), .v (.int .i64 0), .v (.slice none 0 0), .v (.int .i64 0), .v (.int .i64 0), .v (.slice none 0 0), .v (.int .i64 0), .v (.int .i64 0), .v (.int .i64 0), .v (.int .i64 0), .v (.int .i64 0), .v (.bool false), .v (.slice none 0 0)] := by kernel_rfl
@[go_sem] theorem ty111_fok : fieldsOk Try.prog 111 = true := by kernel_rfl
@[go_sem] theorem ty111_f0 : tyField Try.prog 111 0 = some (0, 3) := by kernel_rfl
@[go_sem] theorem ty111_f1 : tyField Try.prog 111 1 = some (1, 3) := by kernel_rfl
@[go_sem] theorem ty111_f2 : tyField Try.prog 111 2 = some (2, 3) := by kernel_rfl
@[go_sem] theorem ty111_f3 : tyField Try.prog 111 3 = some (3, 103) := by kernel_rfl
@[go_sem] theorem ty111_f4 : tyField Try.prog 111 4 = some (4, 3) := by kernel_rfl
@[go_sem] theorem ty111_f5 : tyField Try.prog 111 5 = some (5, 109) := by kernel_rfl
@[go_sem] theorem ty111_f6 : tyField Try.prog 111 6 = some (15, 3) := by kernel_rfl
@[go_sem] theorem ty111_f7 : tyField Try.prog 111 7 = some (16, 3) := by kernel_rfl
@[go_sem] theorem ty111_f8 : tyField Try.prog 111 8 = some (17, 25) := by kernel_rfl
@[go_sem] theorem ty111_f9 : tyField Try.prog 111 9 = some (18, 3) := by kernel_rfl
@[go_sem] theorem ty111_f10 : tyField Try.prog 111 10 = some (19, 3) := by kernel_rfl
@[go_sem] theorem ty111_f11 : tyField Try.prog 111 11 = some (20, 3) := by kernel_rfl
@[go_sem] theorem ty111_f12 : tyField Try.prog 111 12 = some (21, 3) := by kernel_rfl
@[go_sem] theorem ty111_f13 : tyField Try.prog 111 13 = some (22, 3) := by kernel_rfl
@[go_sem] theorem ty111_f14 : tyField Try.prog 111 14 = some (23, 4) := by kernel_rfl
@[go_sem] theorem ty111_f15 : tyField Try.prog 111 15 = some (24, 110) := by kernel_rfl
attribute [go_sem] Try.underlying111
@[go_sem] theorem ty112_size : tySize Try.prog 112 = some 25 := by kernel_rfl
@[go_sem] theorem ty112_agg : tyAgg Try.prog 112 = some true := by kernel_rfl
@[go_sem] theorem ty112_bytes : tyBytes Try.prog 112 = some 288 := by kernel_rfl
@[go_sem] theorem ty112_z : tyZ Try.prog 112 = some [.v (.int .i64 0), .v (.int .i64 0), .v (.int .i64 0), .v (.slice none 0 0), .v (.int .i64 0), .v (.int .i64 0), .v (.int .i64 0), .v (.int .i64 0), .v (.int .i64 0), .v (.int .i64 0), .v (.int .i64 0), .v (.string ByteArray.empty), .v (.slice none 0 0), .v (.int .i64 0), .v (.slice none 0 0), .v (.int .i64 0), .v (.int .i64 0), .v (.slice none 0 0), .v (.int .i64 0), .v (.int .i64 0), .v (.int .i64 0), .v (.int .i64 0), .v (.int .i64 0), .v (.bool false), .v (.slice none 0 0)] := by kernel_rfl
@[go_sem] theorem ty112_fok : fieldsOk Try.prog 112 = true := by kernel_rfl
@[go_sem] theorem ty112_f0 : tyField Try.prog 112 0 = some (0, 3) := by kernel_rfl
@[go_sem] theorem ty112_f1 : tyField Try.prog 112 1 = some (1, 3) := by kernel_rfl
@[go_sem] theorem ty112_f2 : tyField Try.prog 112 2 = some (2, 3) := by kernel_rfl
@[go_sem] theorem ty112_f3 : tyField Try.prog 112 3 = some (3, 103) := by kernel_rfl
@[go_sem] theorem ty112_f4 : tyField Try.prog 112 4 = some (4, 3) := by kernel_rfl
@[go_sem] theorem ty112_f5 : tyField Try.prog 112 5 = some (5, 109) := by kernel_rfl
@[go_sem] theorem ty112_f6 : tyField Try.prog 112 6 = some (15, 3) := by kernel_rfl
@[go_sem] theorem ty112_f7 : tyField Try.prog 112 7 = some (16, 3) := by kernel_rfl
@[go_sem] theorem ty112_f8 : tyField Try.prog 112 8 = some (17, 25) := by kernel_rfl
@[go_sem] theorem ty112_f9 : tyField Try.prog 112 9 = some (18, 3) := by kernel_rfl
@[go_sem] theorem ty112_f10 : tyField Try.prog 112 10 = some (19, 3) := by kernel_rfl
@[go_sem] theorem ty112_f11 : tyField Try.prog 112 11 = some (20, 3) := by kernel_rfl
@[go_sem] theorem ty112_f12 : tyField Try.prog 112 12 = some (21, 3) := by kernel_rfl
@[go_sem] theorem ty112_f13 : tyField Try.prog 112 13 = some (22, 3) := by kernel_rfl
@[go_sem] theorem ty112_f14 : tyField Try.prog 112 14 = some (23, 4) := by kernel_rfl
@[go_sem] theorem ty112_f15 : tyField Try.prog 112 15 = some (24, 110) := by kernel_rfl
attribute [go_sem] Try.underlying112
@[go_sem] theorem ty114_size : tySize Try.prog 114 = some 6 := by kernel_rfl
@[go_sem] theorem ty114_agg : tyAgg Try.prog 114 = some true := by kernel_rfl
@[go_sem] theorem ty114_bytes : tyBytes Try.prog 114 = some 72 := by kernel_rfl
@[go_sem] theorem ty114_z : tyZ Try.prog 114 = some [.v (.slice none 0 0), .v (.int .i64 0), .v (.bool false), .v (.int .i64 0), .v (.int .i64 0), .v (.string ByteArray.empty)] := by kernel_rfl
@[go_sem] theorem ty114_fok : fieldsOk Try.prog 114 = true := by kernel_rfl
@[go_sem] theorem ty114_f0 : tyField Try.prog 114 0 = some (0, 110) := by kernel_rfl
@[go_sem] theorem ty114_f1 : tyField Try.prog 114 1 = some (1, 3) := by kernel_rfl
@[go_sem] theorem ty114_f2 : tyField Try.prog 114 2 = some (2, 4) := by kernel_rfl
@[go_sem] theorem ty114_f3 : tyField Try.prog 114 3 = some (3, 104) := by kernel_rfl
attribute [go_sem] Try.underlying114
@[go_sem] theorem ty115_size : tySize Try.prog 115 = some 6 := by kernel_rfl
@[go_sem] theorem ty115_agg : tyAgg Try.prog 115 = some true := by kernel_rfl
@[go_sem] theorem ty115_bytes : tyBytes Try.prog 115 = some 72 := by kernel_rfl
@[go_sem] theorem ty115_z : tyZ Try.prog 115 = some [.v (.slice none 0 0), .v (.int .i64 0), .v (.bool false), .v (.int .i64 0), .v (.int .i64 0), .v (.string ByteArray.empty)] := by kernel_rfl
@[go_sem] theorem ty115_fok : fieldsOk Try.prog 115 = true := by kernel_rfl
@[go_sem] theorem ty115_f0 : tyField Try.prog 115 0 = some (0, 110) := by kernel_rfl
@[go_sem] theorem ty115_f1 : tyField Try.prog 115 1 = some (1, 3) := by kernel_rfl
@[go_sem] theorem ty115_f2 : tyField Try.prog 115 2 = some (2, 4) := by kernel_rfl
@[go_sem] theorem ty115_f3 : tyField Try.prog 115 3 = some (3, 104) := by kernel_rfl
attribute [go_sem] Try.underlying115
@[go_sem] theorem ty116_size : tySize Try.prog 116 = some 25 := by kernel_rfl
@[go_sem] theorem ty116_agg : tyAgg Try.prog 116 = some true := by kernel_rfl
@[go_sem] theorem ty116_bytes : tyBytes Try.prog 116 = some 280 := by kernel_rfl
@[go_sem] theorem ty116_z : tyZ Try.prog 116 = some [.v (.int .i64 0), .v (.int .i64 0), .v (.slice none 0 0), .v (.int .i64 0), .v (.int .i64 0), .v (.int .i64 0), .v (.int .i64 0), .v (.int .i64 0), .v (.int .i64 0), .v (.int .i64 0), .v (.string ByteArray.empty), .v (.slice none 0 0), .v (.int .i64 0), .v (.slice none 0 0), .v (.slice none 0 0), .v (.int .i64 0), .v (.bool false), .v (.int .i64 0), .v (.int .i64 0), .v (.string ByteArray.empty), .v (.int .i64 0), .v (.int .i64 0), .v (.int .i64 0), .v (.int .i64 0), .v (.int .i64 0)] := by kernel_rfl
@[go_sem] theorem ty116_fok : fieldsOk Try.prog 116 = true := by kernel_rfl
@[go_sem] theorem ty116_f0 : tyField Try.prog 116 0 = some (0, 3) := by kernel_rfl
@[go_sem] theorem ty116_f1 : tyField Try.prog 116 1 = some (1, 3) := by kernel_rfl
@[go_sem] theorem ty116_f2 : tyField Try.prog 116 2 = some (2, 103) := by kernel_rfl
@[go_sem] theorem ty116_f3 : tyField Try.prog 116 3 = some (3, 3) := by kernel_rfl
@[go_sem] theorem ty116_f4 : tyField Try.prog 116 4 = some (4, 109) := by kernel_rfl
@[go_sem] theorem ty116_f5 : tyField Try.prog 116 5 = some (14, 115) := by kernel_rfl
@[go_sem] theorem ty116_f6 : tyField Try.prog 116 6 = some (20, 3) := by kernel_rfl
@[go_sem] theorem ty116_f7 : tyField Try.prog 116 7 = some (21, 3) := by kernel_rfl
@[go_sem] theorem ty116_f8 : tyField Try.prog 116 8 = some (22, 3) := by kernel_rfl
@[go_sem] theorem ty116_f9 : tyField Try.prog 116 9 = some (23, 3) := by kernel_rfl
@[go_sem] theorem ty116_f10 : tyField Try.prog 116 10 = some (24, 3) := by kernel_rfl
attribute [go_sem] Try.underlying116
@[go_sem] theorem ty117_size : tySize Try.prog 117 = some 25 := by kernel_rfl
@[go_sem] theorem ty117_agg : tyAgg Try.prog 117 = some true := by kernel_rfl
@[go_sem] theorem ty117_bytes : tyBytes Try.prog 117 = some 280 := by kernel_rfl
@[go_sem] theorem ty117_z : tyZ Try.prog 117 = some [.v (.int .i64 0), .v (.int .i64 0), .v (.slice none 0 0), .v (.int .i64 0), .v (.int .i64 0), .v (.int .i64 0), .v (.int .i64 0), .v (.int .i64 0), .v (.int .i64 0), .v (.int .i64 0), .v (.string ByteArray.empty), .v (.slice none 0 0), .v (.int .i64 0), .v (.slice none 0 0), .v (.slice none 0 0), .v (.int .i64 0), .v (.bool false), .v (.int .i64 0), .v (.int .i64 0), .v (.string ByteArray.empty), .v (.int .i64 0), .v (.int .i64 0), .v (.int .i64 0), .v (.int .i64 0), .v (.int .i64 0)] := by kernel_rfl
@[go_sem] theorem ty117_fok : fieldsOk Try.prog 117 = true := by kernel_rfl
@[go_sem] theorem ty117_f0 : tyField Try.prog 117 0 = some (0, 3) := by kernel_rfl
@[go_sem] theorem ty117_f1 : tyField Try.prog 117 1 = some (1, 3) := by kernel_rfl
@[go_sem] theorem ty117_f2 : tyField Try.prog 117 2 = some (2, 103) := by kernel_rfl
@[go_sem] theorem ty117_f3 : tyField Try.prog 117 3 = some (3, 3) := by kernel_rfl
@[go_sem] theorem ty117_f4 : tyField Try.prog 117 4 = some (4, 109) := by kernel_rfl
@[go_sem] theorem ty117_f5 : tyField Try.prog 117 5 = some (14, 115) := by kernel_rfl
@[go_sem] theorem ty117_f6 : tyField Try.prog 117 6 = some (20, 3) := by kernel_rfl
@[go_sem] theorem ty117_f7 : tyField Try.prog 117 7 = some (21, 3) := by kernel_rfl
@[go_sem] theorem ty117_f8 : tyField Try.prog 117 8 = some (22, 3) := by kernel_rfl
@[go_sem] theorem ty117_f9 : tyField Try.prog 117 9 = some (23, 3) := by kernel_rfl
@[go_sem] theorem ty117_f10 : tyField Try.prog 117 10 = some (24, 3) := by kernel_rfl
attribute [go_sem] Try.underlying117
@[go_sem] theorem ty120_size : tySize Try.prog 120 = some 3 := by kernel_rfl
@[go_sem] theorem ty120_agg : tyAgg Try.prog 120 = some true := by kernel_rfl
@[go_sem] theorem ty120_bytes : tyBytes Try.prog 120 = some 24 := by kernel_rfl
@[go_sem] theorem ty120_z : tyZ Try.prog 120 = some [.v (.int .i64 0), .v (.int .i64 0), .v (.int .i64 0)] := by kernel_rfl
@[go_sem] theorem ty120_fok : fieldsOk Try.prog 120 = true := by kernel_rfl
@[go_sem] theorem ty120_f0 : tyField Try.prog 120 0 = some (0, 3) := by kernel_rfl
@[go_sem] theorem ty120_f1 : tyField Try.prog 120 1 = some (1, 3) := by kernel_rfl
@[go_sem] theorem ty120_f2 : tyField Try.prog 120 2 = some (2, 3) := by kernel_rfl
attribute [go_sem] Try.underlying120
@[go_sem] theorem ty121_size : tySize Try.prog 121 = some 3 := by kernel_rfl
@[go_sem] theorem ty121_agg : tyAgg Try.prog 121 = some true := by kernel_rfl
@[go_sem] theorem ty121_bytes : tyBytes Try.prog 121 = some 24 := by kernel_rfl
@[go_sem] theorem ty121_z : tyZ Try.prog 121 = some [.v (.int .i64 0), .v (.int .i64 0), .v (.int .i64 0)] := by kernel_rfl
@[go_sem] theorem ty121_fok : fieldsOk Try.prog 121 = true := by kernel_rfl
@[go_sem] theorem ty121_f0 : tyField Try.prog 121 0 = some (0, 3) := by kernel_rfl
@[go_sem] theorem ty121_f1 : tyField Try.prog 121 1 = some (1, 3) := by kernel_rfl
@[go_sem] theorem ty121_f2 : tyField Try.prog 121 2 = some (2, 3) := by kernel_rfl
attribute [go_sem] Try.underlying121
@[go_sem] theorem ty123_size : tySize Try.prog 123 = some 3 := by kernel_rfl
@[go_sem] theorem ty123_agg : tyAgg Try.prog 123 = some true := by kernel_rfl
@[go_sem] theorem ty123_bytes : tyBytes Try.prog 123 = some 24 := by kernel_rfl
@[go_sem] theorem ty123_z : tyZ Try.prog 123 = some [.v (.int .i64 0), .v (.int .i64 0), .v (.int .i64 0)] := by kernel_rfl
@[go_sem] theorem ty123_fok : fieldsOk Try.prog 123 = true := by kernel_rfl
@[go_sem] theorem ty123_f0 : tyField Try.prog 123 0 = some (0, 3) := by kernel_rfl
@[go_sem] theorem ty123_f1 : tyField Try.prog 123 1 = some (1, 3) := by kernel_rfl
@[go_sem] theorem ty123_f2 : tyField Try.prog 123 2 = some (2, 3) := by kernel_rfl
attribute [go_sem] Try.underlying123
@[go_sem] theorem ty125_size : tySize Try.prog 125 = some 6 := by kernel_rfl
@[go_sem] theorem ty125_agg : tyAgg Try.prog 125 = some true := by kernel_rfl
@[go_sem] theorem ty125_bytes : tyBytes Try.prog 125 = some 72 := by kernel_rfl
@[go_sem] theorem ty125_z : tyZ Try.prog 125 = some [.v (.slice none 0 0), .v (.int .i64 0), .v (.bool false), .v (.int .i64 0), .v (.int .i64 0), .v (.string ByteArray.empty)] := by kernel_rfl
@[go_sem] theorem ty125_fok : fieldsOk Try.prog 125 = true := by kernel_rfl
@[go_sem] theorem ty125_f0 : tyField Try.prog 125 0 = some (0, 66) := by kernel_rfl
@[go_sem] theorem ty125_f1 : tyField Try.prog 125 1 = some (1, 3) := by kernel_rfl
@[go_sem] theorem ty125_f2 : tyField Try.prog 125 2 = some (2, 4) := by kernel_rfl
@[go_sem] theorem ty125_f3 : tyField Try.prog 125 3 = some (3, 60) := by kernel_rfl
attribute [go_sem] Try.underlying125
@[go_sem] theorem ty126_size : tySize Try.prog 126 = some 6 := by kernel_rfl
@[go_sem] theorem ty126_agg : tyAgg Try.prog 126 = some true := by kernel_rfl
@[go_sem] theorem ty126_bytes : tyBytes Try.prog 126 = some 72 := by kernel_rfl
@[go_sem] theorem ty126_z : tyZ Try.prog 126 = some [.v (.slice none 0 0), .v (.int .i64 0), .v (.bool false), .v (.int .i64 0), .v (.int .i64 0), .v (.string ByteArray.empty)] := by kernel_rfl
@[go_sem] theorem ty126_fok : fieldsOk Try.prog 126 = true := by kernel_rfl
@[go_sem] theorem ty126_f0 : tyField Try.prog 126 0 = some (0, 66) := by kernel_rfl
@[go_sem] theorem ty126_f1 : tyField Try.prog 126 1 = some (1, 3) := by kernel_rfl
@[go_sem] theorem ty126_f2 : tyField Try.prog 126 2 = some (2, 4) := by kernel_rfl
@[go_sem] theorem ty126_f3 : tyField Try.prog 126 3 = some (3, 60) := by kernel_rfl
attribute [go_sem] Try.underlying126
@[go_sem] theorem ty127_size : tySize Try.prog 127 = some 25 := by kernel_rfl
@[go_sem] theorem ty127_agg : tyAgg Try.prog 127 = some true := by kernel_rfl
@[go_sem] theorem ty127_bytes : tyBytes Try.prog 127 = some 280 := by kernel_rfl
@[go_sem] theorem ty127_z : tyZ Try.prog 127 = some [.v (.int .i64 0), .v (.int .i64 0), .v (.slice none 0 0), .v (.int .i64 0), .v (.int .i64 0), .v (.int .i64 0), .v (.int .i64 0), .v (.int .i64 0), .v (.int .i64 0), .v (.int .i64 0), .v (.string ByteArray.empty), .v (.slice none 0 0), .v (.int .i64 0), .v (.slice none 0 0), .v (.slice none 0 0), .v (.int .i64 0), .v (.bool false), .v (.int .i64 0), .v (.int .i64 0), .v (.string ByteArray.empty), .v (.int .i64 0), .v (.int .i64 0), .v (.int .i64 0), .v (.int .i64 0), .v (.int .i64 0)] := by kernel_rfl
@[go_sem] theorem ty127_fok : fieldsOk Try.prog 127 = true := by kernel_rfl
@[go_sem] theorem ty127_f0 : tyField Try.prog 127 0 = some (0, 3) := by kernel_rfl
@[go_sem] theorem ty127_f1 : tyField Try.prog 127 1 = some (1, 3) := by kernel_rfl
@[go_sem] theorem ty127_f2 : tyField Try.prog 127 2 = some (2, 58) := by kernel_rfl
@[go_sem] theorem ty127_f3 : tyField Try.prog 127 3 = some (3, 3) := by kernel_rfl
@[go_sem] theorem ty127_f4 : tyField Try.prog 127 4 = some (4, 65) := by kernel_rfl
@[go_sem] theorem ty127_f5 : tyField Try.prog 127 5 = some (14, 126) := by kernel_rfl
@[go_sem] theorem ty127_f6 : tyField Try.prog 127 6 = some (20, 3) := by kernel_rfl
@[go_sem] theorem ty127_f7 : tyField Try.prog 127 7 = some (21, 3) := by kernel_rfl
@[go_sem] theorem ty127_f8 : tyField Try.prog 127 8 = some (22, 3) := by kernel_rfl
@[go_sem] theorem ty127_f9 : tyField Try.prog 127 9 = some (23, 3) := by kernel_rfl
@[go_sem] theorem ty127_f10 : tyField Try.prog 127 10 = some (24, 3) := by kernel_rfl
attribute [go_sem] Try.underlying127
@[go_sem] theorem ty128_size : tySize Try.prog 128 = some 25 := by kernel_rfl
@[go_sem] theorem ty128_agg : tyAgg Try.prog 128 = some true := by kernel_rfl
@[go_sem] theorem ty128_bytes : tyBytes Try.prog 128 = some 280 := by kernel_rfl
@[go_sem] theorem ty128_z : tyZ Try.prog 128 = some [.v (.int .i64 0), .v (.int .i64 0), .v (.slice none 0 0), .v (.int .i64 0), .v (.int .i64 0), .v (.int .i64 0), .v (.int .i64 0), .v (.int .i64 0), .v (.int .i64 0), .v (.int .i64 0), .v (.string ByteArray.empty), .v (.slice none 0 0), .v (.int .i64 0), .v (.slice none 0 0), .v (.slice none 0 0), .v (.int .i64 0), .v (.bool false), .v (.int .i64 0), .v (.int .i64 0), .v (.string ByteArray.empty), .v (.int .i64 0), .v (.int .i64 0), .v (.int .i64 0), .v (.int .i64 0), .v (.int .i64 0)] := by kernel_rfl
@[go_sem] theorem ty128_fok : fieldsOk Try.prog 128 = true := by kernel_rfl
@[go_sem] theorem ty128_f0 : tyField Try.prog 128 0 = some (0, 3) := by kernel_rfl
@[go_sem] theorem ty128_f1 : tyField Try.prog 128 1 = some (1, 3) := by kernel_rfl
@[go_sem] theorem ty128_f2 : tyField Try.prog 128 2 = some (2, 58) := by kernel_rfl
@[go_sem] theorem ty128_f3 : tyField Try.prog 128 3 = some (3, 3) := by kernel_rfl
@[go_sem] theorem ty128_f4 : tyField Try.prog 128 4 = some (4, 65) := by kernel_rfl
@[go_sem] theorem ty128_f5 : tyField Try.prog 128 5 = some (14, 126) := by kernel_rfl
@[go_sem] theorem ty128_f6 : tyField Try.prog 128 6 = some (20, 3) := by kernel_rfl
@[go_sem] theorem ty128_f7 : tyField Try.prog 128 7 = some (21, 3) := by kernel_rfl
@[go_sem] theorem ty128_f8 : tyField Try.prog 128 8 = some (22, 3) := by kernel_rfl
@[go_sem] theorem ty128_f9 : tyField Try.prog 128 9 = some (23, 3) := by kernel_rfl
@[go_sem] theorem ty128_f10 : tyField Try.prog 128 10 = some (24, 3) := by kernel_rfl
attribute [go_sem] Try.underlying128
@[go_sem] theorem ty143_size : tySize Try.prog 143 = some 5 := by kernel_rfl
@[go_sem] theorem ty143_agg : tyAgg Try.prog 143 = some true := by kernel_rfl
@[go_sem] theorem ty143_bytes : tyBytes Try.prog 143 = some 40 := by kernel_rfl
@[go_sem] theorem ty143_z : tyZ Try.prog 143 = some [.v (.int .i64 0), .v (.int .i64 0), .v (.int .i64 0), .v (.int .i64 0), .v (.int .i64 0)] := by kernel_rfl
@[go_sem] theorem ty143_fok : fieldsOk Try.prog 143 = true := by kernel_rfl
@[go_sem] theorem ty143_f0 : tyField Try.prog 143 0 = some (0, 3) := by kernel_rfl
@[go_sem] theorem ty143_f1 : tyField Try.prog 143 1 = some (1, 3) := by kernel_rfl
@[go_sem] theorem ty143_f2 : tyField Try.prog 143 2 = some (2, 3) := by kernel_rfl
@[go_sem] theorem ty143_f3 : tyField Try.prog 143 3 = some (3, 3) := by kernel_rfl
@[go_sem] theorem ty143_f4 : tyField Try.prog 143 4 = some (4, 3) := by kernel_rfl
attribute [go_sem] Try.underlying143
@[go_sem] theorem ty161_size : tySize Try.prog 161 = some 2 := by kernel_rfl
@[go_sem] theorem ty161_agg : tyAgg Try.prog 161 = some true := by kernel_rfl
@[go_sem] theorem ty161_bytes : tyBytes Try.prog 161 = some 32 := by kernel_rfl
@[go_sem] theorem ty161_z : tyZ Try.prog 161 = some [.v (.int .i64 0), .v (.slice none 0 0)] := by kernel_rfl
@[go_sem] theorem ty161_fok : fieldsOk Try.prog 161 = true := by kernel_rfl
@[go_sem] theorem ty161_f0 : tyField Try.prog 161 0 = some (0, 3) := by kernel_rfl
@[go_sem] theorem ty161_f1 : tyField Try.prog 161 1 = some (1, 103) := by kernel_rfl
attribute [go_sem] Try.underlying161
@[go_sem] theorem ty162_size : tySize Try.prog 162 = some 2 := by kernel_rfl
@[go_sem] theorem ty162_agg : tyAgg Try.prog 162 = some true := by kernel_rfl
@[go_sem] theorem ty162_bytes : tyBytes Try.prog 162 = some 32 := by kernel_rfl
@[go_sem] theorem ty162_z : tyZ Try.prog 162 = some [.v (.int .i64 0), .v (.slice none 0 0)] := by kernel_rfl
@[go_sem] theorem ty162_fok : fieldsOk Try.prog 162 = true := by kernel_rfl
@[go_sem] theorem ty162_f0 : tyField Try.prog 162 0 = some (0, 3) := by kernel_rfl
@[go_sem] theorem ty162_f1 : tyField Try.prog 162 1 = some (1, 103) := by kernel_rfl
attribute [go_sem] Try.underlying162
@[go_sem] theorem ty166_size : tySize Try.prog 166 = some 2 := by kernel_rfl
@[go_sem] theorem ty166_agg : tyAgg Try.prog 166 = some true := by kernel_rfl
@[go_sem] theorem ty166_bytes : tyBytes Try.prog 166 = some 32 := by kernel_rfl
@[go_sem] theorem ty166_z : tyZ Try.prog 166 = some [.v (.int .i64 0), .v (.slice none 0 0)] := by kernel_rfl
@[go_sem] theorem ty166_fok : fieldsOk Try.prog 166 = true := by kernel_rfl
@[go_sem] theorem ty166_f0 : tyField Try.prog 166 0 = some (0, 3) := by kernel_rfl
@[go_sem] theorem ty166_f1 : tyField Try.prog 166 1 = some (1, 58) := by kernel_rfl
attribute [go_sem] Try.underlying166
@[go_sem] theorem ty167_size : tySize Try.prog 167 = some 2 := by kernel_rfl
@[go_sem] theorem ty167_agg : tyAgg Try.prog 167 = some true := by kernel_rfl
@[go_sem] theorem ty167_bytes : tyBytes Try.prog 167 = some 32 := by kernel_rfl
@[go_sem] theorem ty167_z : tyZ Try.prog 167 = some [.v (.int .i64 0), .v (.slice none 0 0)] := by kernel_rfl
@[go_sem] theorem ty167_fok : fieldsOk Try.prog 167 = true := by kernel_rfl
@[go_sem] theorem ty167_f0 : tyField Try.prog 167 0 = some (0, 3) := by kernel_rfl
@[go_sem] theorem ty167_f1 : tyField Try.prog 167 1 = some (1, 58) := by kernel_rfl
attribute [go_sem] Try.underlying167
@[go_sem] theorem ty174_size : tySize Try.prog 174 = some 2 := by kernel_rfl
@[go_sem] theorem ty174_agg : tyAgg Try.prog 174 = some true := by kernel_rfl
@[go_sem] theorem ty174_bytes : tyBytes Try.prog 174 = some 32 := by kernel_rfl
@[go_sem] theorem ty174_z : tyZ Try.prog 174 = some [.v (.int .i64 0), .v (.slice none 0 0)] := by kernel_rfl
@[go_sem] theorem ty174_fok : fieldsOk Try.prog 174 = true := by kernel_rfl
@[go_sem] theorem ty174_f0 : tyField Try.prog 174 0 = some (0, 3) := by kernel_rfl
@[go_sem] theorem ty174_f1 : tyField Try.prog 174 1 = some (1, 103) := by kernel_rfl
attribute [go_sem] Try.underlying174
@[go_sem] theorem ty175_size : tySize Try.prog 175 = some 2 := by kernel_rfl
@[go_sem] theorem ty175_agg : tyAgg Try.prog 175 = some true := by kernel_rfl
@[go_sem] theorem ty175_bytes : tyBytes Try.prog 175 = some 32 := by kernel_rfl
@[go_sem] theorem ty175_z : tyZ Try.prog 175 = some [.v (.int .i64 0), .v (.slice none 0 0)] := by kernel_rfl
@[go_sem] theorem ty175_fok : fieldsOk Try.prog 175 = true := by kernel_rfl
@[go_sem] theorem ty175_f0 : tyField Try.prog 175 0 = some (0, 3) := by kernel_rfl
@[go_sem] theorem ty175_f1 : tyField Try.prog 175 1 = some (1, 103) := by kernel_rfl
attribute [go_sem] Try.underlying175
@[go_sem] theorem ty177_size : tySize Try.prog 177 = some 2 := by kernel_rfl
@[go_sem] theorem ty177_agg : tyAgg Try.prog 177 = some true := by kernel_rfl
@[go_sem] theorem ty177_bytes : tyBytes Try.prog 177 = some 32 := by kernel_rfl
@[go_sem] theorem ty177_z : tyZ Try.prog 177 = some [.v (.int .i64 0), .v (.slice none 0 0)] := by kernel_rfl
@[go_sem] theorem ty177_fok : fieldsOk Try.prog 177 = true := by kernel_rfl
@[go_sem] theorem ty177_f0 : tyField Try.prog 177 0 = some (0, 3) := by kernel_rfl
@[go_sem] theorem ty177_f1 : tyField Try.prog 177 1 = some (1, 58) := by kernel_rfl
attribute [go_sem] Try.underlying177
@[go_sem] theorem ty178_size : tySize Try.prog 178 = some 2 := by kernel_rfl
@[go_sem] theorem ty178_agg : tyAgg Try.prog 178 = some true := by kernel_rfl
@[go_sem] theorem ty178_bytes : tyBytes Try.prog 178 = some 32 := by kernel_rfl
@[go_sem] theorem ty178_z : tyZ Try.prog 178 = some [.v (.int .i64 0), .v (.slice none 0 0)] := by kernel_rfl
@[go_sem] theorem ty178_fok : fieldsOk Try.prog 178 = true := by kernel_rfl
@[go_sem] theorem ty178_f0 : tyField Try.prog 178 0 = some (0, 3) := by kernel_rfl
@[go_sem] theorem ty178_f1 : tyField Try.prog 178 1 = some (1, 58) := by kernel_rfl
attribute [go_sem] Try.underlying178
@[go_sem] theorem ty184_size : tySize Try.prog 184 = some 4 := by kernel_rfl
@[go_sem] theorem ty184_agg : tyAgg Try.prog 184 = some true := by kernel_rfl
@[go_sem] theorem ty184_bytes : tyBytes Try.prog 184 = some 40 := by kernel_rfl
@[go_sem] theorem ty184_z : tyZ Try.prog 184 = some [.v (.pointer none), .v (.pointer none), .v (.pointer none), .v (.string ByteArray.empty)] := by kernel_rfl
@[go_sem] theorem ty184_fok : fieldsOk Try.prog 184 = true := by kernel_rfl
@[go_sem] theorem ty184_f0 : tyField Try.prog 184 0 = some (0, 17) := by kernel_rfl
@[go_sem] theorem ty184_f1 : tyField Try.prog 184 1 = some (1, 17) := by kernel_rfl
@[go_sem] theorem ty184_f2 : tyField Try.prog 184 2 = some (2, 17) := by kernel_rfl
@[go_sem] theorem ty184_f3 : tyField Try.prog 184 3 = some (3, 9) := by kernel_rfl
attribute [go_sem] Try.underlying184
@[go_sem] theorem ty186_size : tySize Try.prog 186 = some 0 := by kernel_rfl
@[go_sem] theorem ty186_agg : tyAgg Try.prog 186 = some true := by kernel_rfl
@[go_sem] theorem ty186_bytes : tyBytes Try.prog 186 = some 0 := by kernel_rfl
@[go_sem] theorem ty186_z : tyZ Try.prog 186 = some [] := by kernel_rfl
attribute [go_sem] Try.underlying186
@[go_sem] theorem ty187_size : tySize Try.prog 187 = some 0 := by kernel_rfl
@[go_sem] theorem ty187_agg : tyAgg Try.prog 187 = some true := by kernel_rfl
@[go_sem] theorem ty187_bytes : tyBytes Try.prog 187 = some 0 := by kernel_rfl
@[go_sem] theorem ty187_z : tyZ Try.prog 187 = some [] := by kernel_rfl
@[go_sem] theorem ty187_fok : fieldsOk Try.prog 187 = true := by kernel_rfl
@[go_sem] theorem ty187_f0 : tyField Try.prog 187 0 = some (0, 186) := by kernel_rfl
attribute [go_sem] Try.underlying187
@[go_sem] theorem ty190_size : tySize Try.prog 190 = some 1 := by kernel_rfl
@[go_sem] theorem ty190_agg : tyAgg Try.prog 190 = some false := by kernel_rfl
@[go_sem] theorem ty190_bytes : tyBytes Try.prog 190 = some 4 := by kernel_rfl
@[go_sem] theorem ty190_z : tyZ Try.prog 190 = some [.v (.int .u32 0)] := by kernel_rfl
attribute [go_sem] Try.underlying190
@[go_sem] theorem ty197_size : tySize Try.prog 197 = some 11 := by kernel_rfl
@[go_sem] theorem ty197_agg : tyAgg Try.prog 197 = some true := by kernel_rfl
@[go_sem] theorem ty197_bytes : tyBytes Try.prog 197 = some 48 := by kernel_rfl
@[go_sem] theorem ty197_z : tyZ Try.prog 197 = some [.v (.int .u64 0), .v (.int .u64 0), .v (.int .u32 0), .v (.int .u8 0), .v (.int .u8 0), .v (.int .u8 0), .v (.int .u8 0), .v (.nilFunc), .v (.pointer none), .v (.int .i32 0), .v (.int .i32 0)] := by kernel_rfl
@[go_sem] theorem ty197_fok : fieldsOk Try.prog 197 = true := by kernel_rfl
@[go_sem] theorem ty197_f0 : tyField Try.prog 197 0 = some (0, 12) := by kernel_rfl
@[go_sem] theorem ty197_f1 : tyField Try.prog 197 1 = some (1, 12) := by kernel_rfl
@[go_sem] theorem ty197_f2 : tyField Try.prog 197 2 = some (2, 190) := by kernel_rfl
@[go_sem] theorem ty197_f3 : tyField Try.prog 197 3 = some (3, 191) := by kernel_rfl
@[go_sem] theorem ty197_f4 : tyField Try.prog 197 4 = some (4, 5) := by kernel_rfl
@[go_sem] theorem ty197_f5 : tyField Try.prog 197 5 = some (5, 5) := by kernel_rfl
@[go_sem] theorem ty197_f6 : tyField Try.prog 197 6 = some (6, 192) := by kernel_rfl
@[go_sem] theorem ty197_f7 : tyField Try.prog 197 7 = some (7, 193) := by kernel_rfl
@[go_sem] theorem ty197_f8 : tyField Try.prog 197 8 = some (8, 194) := by kernel_rfl
@[go_sem] theorem ty197_f9 : tyField Try.prog 197 9 = some (9, 195) := by kernel_rfl
@[go_sem] theorem ty197_f10 : tyField Try.prog 197 10 = some (10, 196) := by kernel_rfl
attribute [go_sem] Try.underlying197
@[go_sem] theorem ty199_size : tySize Try.prog 199 = some 1 := by kernel_rfl
@[go_sem] theorem ty199_agg : tyAgg Try.prog 199 = some false := by kernel_rfl
@[go_sem] theorem ty199_bytes : tyBytes Try.prog 199 = some 8 := by kernel_rfl
@[go_sem] theorem ty199_z : tyZ Try.prog 199 = some [.v (.pointer none)] := by kernel_rfl
attribute [go_sem] Try.underlying199
end Go.Proofs.Ytajokmlnpnfkoaa
