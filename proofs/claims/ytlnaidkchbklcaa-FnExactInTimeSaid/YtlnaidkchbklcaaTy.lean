/- Facts on the types of this seat, by program (gen_ty.py). -/
import Derived.Test.YtlnaidkchbklcaaVmU
import Derived.Test.YtlnaidkchbklcaaRows
namespace Go.Proofs.Ytlnaidkchbklcaa
set_option linter.unusedSimpArgs false
set_option linter.unusedVariables false
open Go.Vm

theorem mixed : Try.prog.follows .mixedOrders = true := by kernel_rfl
@[go_sem] theorem ty2_size : tySize Try.prog 2 = some 1 := by kernel_rfl
@[go_sem] theorem ty2_agg : tyAgg Try.prog 2 = some false := by kernel_rfl
@[go_sem] theorem ty2_bytes : tyBytes Try.prog 2 = some 8 := by kernel_rfl
@[go_sem] theorem ty2_z : tyZ Try.prog 2 = some [.v (.int .i64 0)] := by kernel_rfl
attribute [go_sem] Try.underlying2
@[go_sem] theorem ty3_size : tySize Try.prog 3 = some 1 := by kernel_rfl
@[go_sem] theorem ty3_agg : tyAgg Try.prog 3 = some false := by kernel_rfl
@[go_sem] theorem ty3_bytes : tyBytes Try.prog 3 = some 8 := by kernel_rfl
@[go_sem] theorem ty3_z : tyZ Try.prog 3 = some [.v (.int .i64 0)] := by kernel_rfl
attribute [go_sem] Try.underlying3
@[go_sem] theorem ty4_size : tySize Try.prog 4 = some 1 := by kernel_rfl
@[go_sem] theorem ty4_agg : tyAgg Try.prog 4 = some false := by kernel_rfl
@[go_sem] theorem ty4_bytes : tyBytes Try.prog 4 = some 1 := by kernel_rfl
@[go_sem] theorem ty4_z : tyZ Try.prog 4 = some [.v (.bool false)] := by kernel_rfl
attribute [go_sem] Try.underlying4
@[go_sem] theorem ty5_size : tySize Try.prog 5 = some 1 := by kernel_rfl
@[go_sem] theorem ty5_agg : tyAgg Try.prog 5 = some false := by kernel_rfl
@[go_sem] theorem ty5_bytes : tyBytes Try.prog 5 = some 1 := by kernel_rfl
@[go_sem] theorem ty5_z : tyZ Try.prog 5 = some [.v (.int .u8 0)] := by kernel_rfl
attribute [go_sem] Try.underlying5
@[go_sem] theorem ty7_size : tySize Try.prog 7 = some 4 := by kernel_rfl
@[go_sem] theorem ty7_agg : tyAgg Try.prog 7 = some true := by kernel_rfl
@[go_sem] theorem ty7_bytes : tyBytes Try.prog 7 = some 24 := by kernel_rfl
@[go_sem] theorem ty7_z : tyZ Try.prog 7 = some [.v (.int .i64 0), .v (.int .i64 0), .v (.bool false), .v (.int .u8 0)] := by kernel_rfl
@[go_sem] theorem ty7_fok : fieldsOk Try.prog 7 = true := by kernel_rfl
@[go_sem] theorem ty7_f0 : tyField Try.prog 7 0 = some (0, 2) := by kernel_rfl
@[go_sem] theorem ty7_f1 : tyField Try.prog 7 1 = some (1, 3) := by kernel_rfl
@[go_sem] theorem ty7_f2 : tyField Try.prog 7 2 = some (2, 4) := by kernel_rfl
@[go_sem] theorem ty7_f3 : tyField Try.prog 7 3 = some (3, 6) := by kernel_rfl
attribute [go_sem] Try.underlying7
@[go_sem] theorem ty9_size : tySize Try.prog 9 = some 1 := by kernel_rfl
@[go_sem] theorem ty9_agg : tyAgg Try.prog 9 = some false := by kernel_rfl
@[go_sem] theorem ty9_bytes : tyBytes Try.prog 9 = some 16 := by kernel_rfl
@[go_sem] theorem ty9_z : tyZ Try.prog 9 = some [.v (.string ByteArray.empty)] := by kernel_rfl
attribute [go_sem] Try.underlying9
@[go_sem] theorem ty12_size : tySize Try.prog 12 = some 1 := by kernel_rfl
@[go_sem] theorem ty12_agg : tyAgg Try.prog 12 = some false := by kernel_rfl
@[go_sem] theorem ty12_bytes : tyBytes Try.prog 12 = some 8 := by kernel_rfl
@[go_sem] theorem ty12_z : tyZ Try.prog 12 = some [.v (.int .u64 0)] := by kernel_rfl
attribute [go_sem] Try.underlying12
@[go_sem] theorem ty13_size : tySize Try.prog 13 = some 2 := by kernel_rfl
@[go_sem] theorem ty13_agg : tyAgg Try.prog 13 = some true := by kernel_rfl
@[go_sem] theorem ty13_bytes : tyBytes Try.prog 13 = some 24 := by kernel_rfl
@[go_sem] theorem ty13_z : tyZ Try.prog 13 = some [.v (.string ByteArray.empty), .v (.int .u64 0)] := by kernel_rfl
@[go_sem] theorem ty13_fok : fieldsOk Try.prog 13 = true := by kernel_rfl
@[go_sem] theorem ty13_f0 : tyField Try.prog 13 0 = some (0, 9) := by kernel_rfl
@[go_sem] theorem ty13_f1 : tyField Try.prog 13 1 = some (1, 12) := by kernel_rfl
attribute [go_sem] Try.underlying13
@[go_sem] theorem ty18_size : tySize Try.prog 18 = some 1 := by kernel_rfl
@[go_sem] theorem ty18_agg : tyAgg Try.prog 18 = some true := by kernel_rfl
@[go_sem] theorem ty18_bytes : tyBytes Try.prog 18 = some 8 := by kernel_rfl
@[go_sem] theorem ty18_z : tyZ Try.prog 18 = some [.v (.pointer none)] := by kernel_rfl
@[go_sem] theorem ty18_fok : fieldsOk Try.prog 18 = true := by kernel_rfl
@[go_sem] theorem ty18_f0 : tyField Try.prog 18 0 = some (0, 17) := by kernel_rfl
attribute [go_sem] Try.underlying18
@[go_sem] theorem ty21_size : tySize Try.prog 21 = some 1 := by kernel_rfl
@[go_sem] theorem ty21_agg : tyAgg Try.prog 21 = some false := by kernel_rfl
@[go_sem] theorem ty21_bytes : tyBytes Try.prog 21 = some 4 := by kernel_rfl
@[go_sem] theorem ty21_z : tyZ Try.prog 21 = some [.v (.int .i32 0)] := by kernel_rfl
attribute [go_sem] Try.underlying21
@[go_sem] theorem ty22_size : tySize Try.prog 22 = some 1 := by kernel_rfl
@[go_sem] theorem ty22_agg : tyAgg Try.prog 22 = some false := by kernel_rfl
@[go_sem] theorem ty22_bytes : tyBytes Try.prog 22 = some 24 := by kernel_rfl
@[go_sem] theorem ty22_z : tyZ Try.prog 22 = some [.v (.slice none 0 0)] := by kernel_rfl
@[go_sem] theorem ty22_elem : tyElem Try.prog 22 = some 3 := by kernel_rfl
attribute [go_sem] Try.underlying22
@[go_sem] theorem ty23_size : tySize Try.prog 23 = some 1 := by kernel_rfl
@[go_sem] theorem ty23_agg : tyAgg Try.prog 23 = some false := by kernel_rfl
@[go_sem] theorem ty23_bytes : tyBytes Try.prog 23 = some 24 := by kernel_rfl
@[go_sem] theorem ty23_z : tyZ Try.prog 23 = some [.v (.slice none 0 0)] := by kernel_rfl
@[go_sem] theorem ty23_elem : tyElem Try.prog 23 = some 79 := by kernel_rfl
attribute [go_sem] Try.underlying23
@[go_sem] theorem ty24_size : tySize Try.prog 24 = some 2 := by kernel_rfl
@[go_sem] theorem ty24_agg : tyAgg Try.prog 24 = some true := by kernel_rfl
@[go_sem] theorem ty24_bytes : tyBytes Try.prog 24 = some 48 := by kernel_rfl
@[go_sem] theorem ty24_z : tyZ Try.prog 24 = some [.v (.slice none 0 0), .v (.slice none 0 0)] := by kernel_rfl
@[go_sem] theorem ty24_fok : fieldsOk Try.prog 24 = true := by kernel_rfl
@[go_sem] theorem ty24_f0 : tyField Try.prog 24 0 = some (0, 22) := by kernel_rfl
@[go_sem] theorem ty24_f1 : tyField Try.prog 24 1 = some (1, 23) := by kernel_rfl
attribute [go_sem] Try.underlying24
@[go_sem] theorem ty25_size : tySize Try.prog 25 = some 2 := by kernel_rfl
@[go_sem] theorem ty25_agg : tyAgg Try.prog 25 = some true := by kernel_rfl
@[go_sem] theorem ty25_bytes : tyBytes Try.prog 25 = some 48 := by kernel_rfl
@[go_sem] theorem ty25_z : tyZ Try.prog 25 = some [.v (.slice none 0 0), .v (.slice none 0 0)] := by kernel_rfl
@[go_sem] theorem ty25_fok : fieldsOk Try.prog 25 = true := by kernel_rfl
@[go_sem] theorem ty25_f0 : tyField Try.prog 25 0 = some (0, 22) := by kernel_rfl
@[go_sem] theorem ty25_f1 : tyField Try.prog 25 1 = some (1, 23) := by kernel_rfl
attribute [go_sem] Try.underlying25
@[go_sem] theorem ty28_size : tySize Try.prog 28 = some 1 := by kernel_rfl
@[go_sem] theorem ty28_agg : tyAgg Try.prog 28 = some false := by kernel_rfl
@[go_sem] theorem ty28_bytes : tyBytes Try.prog 28 = some 24 := by kernel_rfl
@[go_sem] theorem ty28_z : tyZ Try.prog 28 = some [.v (.slice none 0 0)] := by kernel_rfl
@[go_sem] theorem ty28_elem : tyElem Try.prog 28 = some 46 := by kernel_rfl
attribute [go_sem] Try.underlying28
@[go_sem] theorem ty29_size : tySize Try.prog 29 = some 2 := by kernel_rfl
@[go_sem] theorem ty29_agg : tyAgg Try.prog 29 = some true := by kernel_rfl
@[go_sem] theorem ty29_bytes : tyBytes Try.prog 29 = some 48 := by kernel_rfl
@[go_sem] theorem ty29_z : tyZ Try.prog 29 = some [.v (.slice none 0 0), .v (.slice none 0 0)] := by kernel_rfl
@[go_sem] theorem ty29_fok : fieldsOk Try.prog 29 = true := by kernel_rfl
@[go_sem] theorem ty29_f0 : tyField Try.prog 29 0 = some (0, 22) := by kernel_rfl
@[go_sem] theorem ty29_f1 : tyField Try.prog 29 1 = some (1, 28) := by kernel_rfl
attribute [go_sem] Try.underlying29
@[go_sem] theorem ty30_size : tySize Try.prog 30 = some 2 := by kernel_rfl
@[go_sem] theorem ty30_agg : tyAgg Try.prog 30 = some true := by kernel_rfl
@[go_sem] theorem ty30_bytes : tyBytes Try.prog 30 = some 48 := by kernel_rfl
@[go_sem] theorem ty30_z : tyZ Try.prog 30 = some [.v (.slice none 0 0), .v (.slice none 0 0)] := by kernel_rfl
@[go_sem] theorem ty30_fok : fieldsOk Try.prog 30 = true := by kernel_rfl
@[go_sem] theorem ty30_f0 : tyField Try.prog 30 0 = some (0, 22) := by kernel_rfl
@[go_sem] theorem ty30_f1 : tyField Try.prog 30 1 = some (1, 28) := by kernel_rfl
attribute [go_sem] Try.underlying30
@[go_sem] theorem ty34_size : tySize Try.prog 34 = some 1 := by kernel_rfl
@[go_sem] theorem ty34_agg : tyAgg Try.prog 34 = some false := by kernel_rfl
@[go_sem] theorem ty34_bytes : tyBytes Try.prog 34 = some 24 := by kernel_rfl
@[go_sem] theorem ty34_z : tyZ Try.prog 34 = some [.v (.slice none 0 0)] := by kernel_rfl
@[go_sem] theorem ty34_elem : tyElem Try.prog 34 = some 64 := by kernel_rfl
attribute [go_sem] Try.underlying34
@[go_sem] theorem ty37_size : tySize Try.prog 37 = some 1 := by kernel_rfl
@[go_sem] theorem ty37_agg : tyAgg Try.prog 37 = some false := by kernel_rfl
@[go_sem] theorem ty37_bytes : tyBytes Try.prog 37 = some 24 := by kernel_rfl
@[go_sem] theorem ty37_z : tyZ Try.prog 37 = some [.v (.slice none 0 0)] := by kernel_rfl
@[go_sem] theorem ty37_elem : tyElem Try.prog 37 = some 75 := by kernel_rfl
attribute [go_sem] Try.underlying37
@[go_sem] theorem ty44_size : tySize Try.prog 44 = some 1 := by kernel_rfl
@[go_sem] theorem ty44_agg : tyAgg Try.prog 44 = some false := by kernel_rfl
@[go_sem] theorem ty44_bytes : tyBytes Try.prog 44 = some 24 := by kernel_rfl
@[go_sem] theorem ty44_z : tyZ Try.prog 44 = some [.v (.slice none 0 0)] := by kernel_rfl
@[go_sem] theorem ty44_elem : tyElem Try.prog 44 = some 66 := by kernel_rfl
attribute [go_sem] Try.underlying44
@[go_sem] theorem ty45_size : tySize Try.prog 45 = some 2 := by kernel_rfl
@[go_sem] theorem ty45_agg : tyAgg Try.prog 45 = some true := by kernel_rfl
@[go_sem] theorem ty45_bytes : tyBytes Try.prog 45 = some 32 := by kernel_rfl
@[go_sem] theorem ty45_z : tyZ Try.prog 45 = some [.v (.int .i64 0), .v (.slice none 0 0)] := by kernel_rfl
@[go_sem] theorem ty45_fok : fieldsOk Try.prog 45 = true := by kernel_rfl
@[go_sem] theorem ty45_f0 : tyField Try.prog 45 0 = some (0, 3) := by kernel_rfl
@[go_sem] theorem ty45_f1 : tyField Try.prog 45 1 = some (1, 44) := by kernel_rfl
attribute [go_sem] Try.underlying45
@[go_sem] theorem ty46_size : tySize Try.prog 46 = some 2 := by kernel_rfl
@[go_sem] theorem ty46_agg : tyAgg Try.prog 46 = some true := by kernel_rfl
@[go_sem] theorem ty46_bytes : tyBytes Try.prog 46 = some 32 := by kernel_rfl
@[go_sem] theorem ty46_z : tyZ Try.prog 46 = some [.v (.int .i64 0), .v (.slice none 0 0)] := by kernel_rfl
@[go_sem] theorem ty46_fok : fieldsOk Try.prog 46 = true := by kernel_rfl
@[go_sem] theorem ty46_f0 : tyField Try.prog 46 0 = some (0, 3) := by kernel_rfl
@[go_sem] theorem ty46_f1 : tyField Try.prog 46 1 = some (1, 44) := by kernel_rfl
attribute [go_sem] Try.underlying46
@[go_sem] theorem ty53_size : tySize Try.prog 53 = some 1 := by kernel_rfl
@[go_sem] theorem ty53_agg : tyAgg Try.prog 53 = some false := by kernel_rfl
@[go_sem] theorem ty53_bytes : tyBytes Try.prog 53 = some 24 := by kernel_rfl
@[go_sem] theorem ty53_z : tyZ Try.prog 53 = some [.v (.slice none 0 0)] := by kernel_rfl
@[go_sem] theorem ty53_elem : tyElem Try.prog 53 = some 55 := by kernel_rfl
attribute [go_sem] Try.underlying53
@[go_sem] theorem ty54_size : tySize Try.prog 54 = some 3 := by kernel_rfl
@[go_sem] theorem ty54_agg : tyAgg Try.prog 54 = some true := by kernel_rfl
@[go_sem] theorem ty54_bytes : tyBytes Try.prog 54 = some 32 := by kernel_rfl
@[go_sem] theorem ty54_z : tyZ Try.prog 54 = some [.v (.int .i64 0), .v (.int .i64 0), .v (.string ByteArray.empty)] := by kernel_rfl
@[go_sem] theorem ty54_fok : fieldsOk Try.prog 54 = true := by kernel_rfl
@[go_sem] theorem ty54_f0 : tyField Try.prog 54 0 = some (0, 3) := by kernel_rfl
@[go_sem] theorem ty54_f1 : tyField Try.prog 54 1 = some (1, 3) := by kernel_rfl
@[go_sem] theorem ty54_f2 : tyField Try.prog 54 2 = some (2, 9) := by kernel_rfl
attribute [go_sem] Try.underlying54
@[go_sem] theorem ty55_size : tySize Try.prog 55 = some 3 := by kernel_rfl
@[go_sem] theorem ty55_agg : tyAgg Try.prog 55 = some true := by kernel_rfl
@[go_sem] theorem ty55_bytes : tyBytes Try.prog 55 = some 32 := by kernel_rfl
@[go_sem] theorem ty55_z : tyZ Try.prog 55 = some [.v (.int .i64 0), .v (.int .i64 0), .v (.string ByteArray.empty)] := by kernel_rfl
@[go_sem] theorem ty55_fok : fieldsOk Try.prog 55 = true := by kernel_rfl
@[go_sem] theorem ty55_f0 : tyField Try.prog 55 0 = some (0, 3) := by kernel_rfl
@[go_sem] theorem ty55_f1 : tyField Try.prog 55 1 = some (1, 3) := by kernel_rfl
@[go_sem] theorem ty55_f2 : tyField Try.prog 55 2 = some (2, 9) := by kernel_rfl
attribute [go_sem] Try.underlying55
@[go_sem] theorem ty56_size : tySize Try.prog 56 = some 1 := by kernel_rfl
@[go_sem] theorem ty56_agg : tyAgg Try.prog 56 = some false := by kernel_rfl
@[go_sem] theorem ty56_bytes : tyBytes Try.prog 56 = some 24 := by kernel_rfl
@[go_sem] theorem ty56_z : tyZ Try.prog 56 = some [.v (.slice none 0 0)] := by kernel_rfl
@[go_sem] theorem ty56_elem : tyElem Try.prog 56 = some 58 := by kernel_rfl
attribute [go_sem] Try.underlying56
@[go_sem] theorem ty57_size : tySize Try.prog 57 = some 7 := by kernel_rfl
@[go_sem] theorem ty57_agg : tyAgg Try.prog 57 = some true := by kernel_rfl
@[go_sem] theorem ty57_bytes : tyBytes Try.prog 57 = some 80 := by kernel_rfl
@[go_sem] theorem ty57_z : tyZ Try.prog 57 = some [.v (.int .i64 0), .v (.int .i64 0), .v (.int .i64 0), .v (.int .i64 0), .v (.int .i64 0), .v (.string ByteArray.empty), .v (.slice none 0 0)] := by kernel_rfl
@[go_sem] theorem ty57_fok : fieldsOk Try.prog 57 = true := by kernel_rfl
@[go_sem] theorem ty57_f0 : tyField Try.prog 57 0 = some (0, 3) := by kernel_rfl
@[go_sem] theorem ty57_f1 : tyField Try.prog 57 1 = some (1, 3) := by kernel_rfl
@[go_sem] theorem ty57_f2 : tyField Try.prog 57 2 = some (2, 3) := by kernel_rfl
@[go_sem] theorem ty57_f3 : tyField Try.prog 57 3 = some (3, 55) := by kernel_rfl
@[go_sem] theorem ty57_f4 : tyField Try.prog 57 4 = some (6, 56) := by kernel_rfl
attribute [go_sem] Try.underlying57
@[go_sem] theorem ty58_size : tySize Try.prog 58 = some 7 := by kernel_rfl
@[go_sem] theorem ty58_agg : tyAgg Try.prog 58 = some true := by kernel_rfl
@[go_sem] theorem ty58_bytes : tyBytes Try.prog 58 = some 80 := by kernel_rfl
@[go_sem] theorem ty58_z : tyZ Try.prog 58 = some [.v (.int .i64 0), .v (.int .i64 0), .v (.int .i64 0), .v (.int .i64 0), .v (.int .i64 0), .v (.string ByteArray.empty), .v (.slice none 0 0)] := by kernel_rfl
@[go_sem] theorem ty58_fok : fieldsOk Try.prog 58 = true := by kernel_rfl
@[go_sem] theorem ty58_f0 : tyField Try.prog 58 0 = some (0, 3) := by kernel_rfl
@[go_sem] theorem ty58_f1 : tyField Try.prog 58 1 = some (1, 3) := by kernel_rfl
@[go_sem] theorem ty58_f2 : tyField Try.prog 58 2 = some (2, 3) := by kernel_rfl
@[go_sem] theorem ty58_f3 : tyField Try.prog 58 3 = some (3, 55) := by kernel_rfl
@[go_sem] theorem ty58_f4 : tyField Try.prog 58 4 = some (6, 56) := by kernel_rfl
attribute [go_sem] Try.underlying58
@[go_sem] theorem ty59_size : tySize Try.prog 59 = some 10 := by kernel_rfl
@[go_sem] theorem ty59_agg : tyAgg Try.prog 59 = some true := by kernel_rfl
@[go_sem] theorem ty59_bytes : tyBytes Try.prog 59 = some 120 := by kernel_rfl
@[go_sem] theorem ty59_z : tyZ Try.prog 59 = some [.v (.int .i64 0), .v (.int .i64 0), .v (.int .i64 0), .v (.int .i64 0), .v (.int .i64 0), .v (.int .i64 0), .v (.string ByteArray.empty), .v (.slice none 0 0), .v (.int .i64 0), .v (.slice none 0 0)] := by kernel_rfl
@[go_sem] theorem ty59_fok : fieldsOk Try.prog 59 = true := by kernel_rfl
@[go_sem] theorem ty59_f0 : tyField Try.prog 59 0 = some (0, 3) := by kernel_rfl
@[go_sem] theorem ty59_f1 : tyField Try.prog 59 1 = some (1, 58) := by kernel_rfl
@[go_sem] theorem ty59_f2 : tyField Try.prog 59 2 = some (8, 3) := by kernel_rfl
@[go_sem] theorem ty59_f3 : tyField Try.prog 59 3 = some (9, 22) := by kernel_rfl
attribute [go_sem] Try.underlying59
@[go_sem] theorem ty60_size : tySize Try.prog 60 = some 10 := by kernel_rfl
@[go_sem] theorem ty60_agg : tyAgg Try.prog 60 = some true := by kernel_rfl
@[go_sem] theorem ty60_bytes : tyBytes Try.prog 60 = some 120 := by kernel_rfl
@[go_sem] theorem ty60_z : tyZ Try.prog 60 = some [.v (.int .i64 0), .v (.int .i64 0), .v (.int .i64 0), .v (.int .i64 0), .v (.int .i64 0), .v (.int .i64 0), .v (.string ByteArray.empty), .v (.slice none 0 0), .v (.int .i64 0), .v (.slice none 0 0)] := by kernel_rfl
@[go_sem] theorem ty60_fok : fieldsOk Try.prog 60 = true := by kernel_rfl
@[go_sem] theorem ty60_f0 : tyField Try.prog 60 0 = some (0, 3) := by kernel_rfl
@[go_sem] theorem ty60_f1 : tyField Try.prog 60 1 = some (1, 58) := by kernel_rfl
@[go_sem] theorem ty60_f2 : tyField Try.prog 60 2 = some (8, 3) := by kernel_rfl
@[go_sem] theorem ty60_f3 : tyField Try.prog 60 3 = some (9, 22) := by kernel_rfl
attribute [go_sem] Try.underlying60
@[go_sem] theorem ty61_size : tySize Try.prog 61 = some 6 := by kernel_rfl
@[go_sem] theorem ty61_agg : tyAgg Try.prog 61 = some true := by kernel_rfl
@[go_sem] theorem ty61_bytes : tyBytes Try.prog 61 = some 72 := by kernel_rfl
@[go_sem] theorem ty61_z : tyZ Try.prog 61 = some [.v (.slice none 0 0), .v (.int .i64 0), .v (.bool false), .v (.int .i64 0), .v (.int .i64 0), .v (.string ByteArray.empty)] := by kernel_rfl
@[go_sem] theorem ty61_fok : fieldsOk Try.prog 61 = true := by kernel_rfl
@[go_sem] theorem ty61_f0 : tyField Try.prog 61 0 = some (0, 23) := by kernel_rfl
@[go_sem] theorem ty61_f1 : tyField Try.prog 61 1 = some (1, 3) := by kernel_rfl
@[go_sem] theorem ty61_f2 : tyField Try.prog 61 2 = some (2, 4) := by kernel_rfl
@[go_sem] theorem ty61_f3 : tyField Try.prog 61 3 = some (3, 55) := by kernel_rfl
attribute [go_sem] Try.underlying61
@[go_sem] theorem ty62_size : tySize Try.prog 62 = some 6 := by kernel_rfl
@[go_sem] theorem ty62_agg : tyAgg Try.prog 62 = some true := by kernel_rfl
@[go_sem] theorem ty62_bytes : tyBytes Try.prog 62 = some 72 := by kernel_rfl
@[go_sem] theorem ty62_z : tyZ Try.prog 62 = some [.v (.slice none 0 0), .v (.int .i64 0), .v (.bool false), .v (.int .i64 0), .v (.int .i64 0), .v (.string ByteArray.empty)] := by kernel_rfl
@[go_sem] theorem ty62_fok : fieldsOk Try.prog 62 = true := by kernel_rfl
@[go_sem] theorem ty62_f0 : tyField Try.prog 62 0 = some (0, 23) := by kernel_rfl
@[go_sem] theorem ty62_f1 : tyField Try.prog 62 1 = some (1, 3) := by kernel_rfl
@[go_sem] theorem ty62_f2 : tyField Try.prog 62 2 = some (2, 4) := by kernel_rfl
@[go_sem] theorem ty62_f3 : tyField Try.prog 62 3 = some (3, 55) := by kernel_rfl
attribute [go_sem] Try.underlying62
@[go_sem] theorem ty63_size : tySize Try.prog 63 = some 25 := by kernel_rfl
@[go_sem] theorem ty63_agg : tyAgg Try.prog 63 = some true := by kernel_rfl
@[go_sem] theorem ty63_bytes : tyBytes Try.prog 63 = some 280 := by kernel_rfl
@[go_sem] theorem ty63_z : tyZ Try.prog 63 = some [.v (.int .i64 0), .v (.int .i64 0), .v (.slice none 0 0), .v (.int .i64 0), .v (.int .i64 0), .v (.int .i64 0), .v (.int .i64 0), .v (.int .i64 0), .v (.int .i64 0), .v (.int .i64 0), .v (.string ByteArray.empty), .v (.slice none 0 0), .v (.int .i64 0), .v (.slice none 0 0), .v (.slice none 0 0), .v (.int .i64 0), .v (.bool false), .v (.int .i64 0), .v (.int .i64 0), .v (.string ByteArray.empty), .v (.int .i64 0), .v (.int .i64 0), .v (.int .i64 0), .v (.int .i64 0), .v (.int .i64 0)] := by kernel_rfl
@[go_sem] theorem ty63_fok : fieldsOk Try.prog 63 = true := by kernel_rfl
@[go_sem] theorem ty63_f0 : tyField Try.prog 63 0 = some (0, 3) := by kernel_rfl
@[go_sem] theorem ty63_f1 : tyField Try.prog 63 1 = some (1, 3) := by kernel_rfl
@[go_sem] theorem ty63_f2 : tyField Try.prog 63 2 = some (2, 53) := by kernel_rfl
@[go_sem] theorem ty63_f3 : tyField Try.prog 63 3 = some (3, 3) := by kernel_rfl
@[go_sem] theorem ty63_f4 : tyField Try.prog 63 4 = some (4, 60) := by kernel_rfl
@[go_sem] theorem ty63_f5 : tyField Try.prog 63 5 = some (14, 62) := by kernel_rfl
@[go_sem] theorem ty63_f6 : tyField Try.prog 63 6 = some (20, 3) := by kernel_rfl
@[go_sem] theorem ty63_f7 : tyField Try.prog 63 7 = some (21, 3) := by kernel_rfl
@[go_sem] theorem ty63_f8 : tyField Try.prog 63 8 = some (22, 3) := by kernel_rfl
@[go_sem] theorem ty63_f9 : tyField Try.prog 63 9 = some (23, 3) := by kernel_rfl
@[go_sem] theorem ty63_f10 : tyField Try.prog 63 10 = some (24, 3) := by kernel_rfl
attribute [go_sem] Try.underlying63
@[go_sem] theorem ty64_size : tySize Try.prog 64 = some 25 := by kernel_rfl
@[go_sem] theorem ty64_agg : tyAgg Try.prog 64 = some true := by kernel_rfl
@[go_sem] theorem ty64_bytes : tyBytes Try.prog 64 = some 280 := by kernel_rfl
@[go_sem] theorem ty64_z : tyZ Try.prog 64 = some [.v (.int .i64 0), .v (.int .i64 0), .v (.slice none 0 0), .v (.int .i64 0), .v (.int .i64 0), .v (.int .i64 0), .v (.int .i64 0), .v (.int .i64 0), .v (.int .i64 0), .v (.int .i64 0), .v (.string ByteArray.empty), .v (.slice none 0 0), .v (.int .i64 0), .v (.slice none 0 0), .v (.slice none 0 0), .v (.int .i64 0), .v (.bool false), .v (.int .i64 0), .v (.int .i64 0), .v (.string ByteArray.empty), .v (.int .i64 0), .v (.int .i64 0), .v (.int .i64 0), .v (.int .i64 0), .v (.int .i64 0)] := by kernel_rfl
@[go_sem] theorem ty64_fok : fieldsOk Try.prog 64 = true := by kernel_rfl
@[go_sem] theorem ty64_f0 : tyField Try.prog 64 0 = some (0, 3) := by kernel_rfl
@[go_sem] theorem ty64_f1 : tyField Try.prog 64 1 = some (1, 3) := by kernel_rfl
@[go_sem] theorem ty64_f2 : tyField Try.prog 64 2 = some (2, 53) := by kernel_rfl
@[go_sem] theorem ty64_f3 : tyField Try.prog 64 3 = some (3, 3) := by kernel_rfl
@[go_sem] theorem ty64_f4 : tyField Try.prog 64 4 = some (4, 60) := by kernel_rfl
@[go_sem] theorem ty64_f5 : tyField Try.prog 64 5 = some (14, 62) := by kernel_rfl
@[go_sem] theorem ty64_f6 : tyField Try.prog 64 6 = some (20, 3) := by kernel_rfl
@[go_sem] theorem ty64_f7 : tyField Try.prog 64 7 = some (21, 3) := by kernel_rfl
@[go_sem] theorem ty64_f8 : tyField Try.prog 64 8 = some (22, 3) := by kernel_rfl
@[go_sem] theorem ty64_f9 : tyField Try.prog 64 9 = some (23, 3) := by kernel_rfl
@[go_sem] theorem ty64_f10 : tyField Try.prog 64 10 = some (24, 3) := by kernel_rfl
attribute [go_sem] Try.underlying64
@[go_sem] theorem ty66_size : tySize Try.prog 66 = some 3 := by kernel_rfl
@[go_sem] theorem ty66_agg : tyAgg Try.prog 66 = some true := by kernel_rfl
@[go_sem] theorem ty66_bytes : tyBytes Try.prog 66 = some 32 := by kernel_rfl
@[go_sem] theorem ty66_z : tyZ Try.prog 66 = some [.v (.int .i64 0), .v (.int .i64 0), .v (.string ByteArray.empty)] := by kernel_rfl
@[go_sem] theorem ty66_fok : fieldsOk Try.prog 66 = true := by kernel_rfl
@[go_sem] theorem ty66_f0 : tyField Try.prog 66 0 = some (0, 3) := by kernel_rfl
@[go_sem] theorem ty66_f1 : tyField Try.prog 66 1 = some (1, 3) := by kernel_rfl
@[go_sem] theorem ty66_f2 : tyField Try.prog 66 2 = some (2, 9) := by kernel_rfl
attribute [go_sem] Try.underlying66
@[go_sem] theorem ty67_size : tySize Try.prog 67 = some 1 := by kernel_rfl
@[go_sem] theorem ty67_agg : tyAgg Try.prog 67 = some false := by kernel_rfl
@[go_sem] theorem ty67_bytes : tyBytes Try.prog 67 = some 24 := by kernel_rfl
@[go_sem] theorem ty67_z : tyZ Try.prog 67 = some [.v (.slice none 0 0)] := by kernel_rfl
@[go_sem] theorem ty67_elem : tyElem Try.prog 67 = some 69 := by kernel_rfl
attribute [go_sem] Try.underlying67
@[go_sem] theorem ty68_size : tySize Try.prog 68 = some 7 := by kernel_rfl
@[go_sem] theorem ty68_agg : tyAgg Try.prog 68 = some true := by kernel_rfl
@[go_sem] theorem ty68_bytes : tyBytes Try.prog 68 = some 80 := by kernel_rfl
@[go_sem] theorem ty68_z : tyZ Try.prog 68 = some [.v (.int .i64 0), .v (.int .i64 0), .v (.int .i64 0), .v (.int .i64 0), .v (.int .i64 0), .v (.string ByteArray.empty), .v (.slice none 0 0)] := by kernel_rfl
@[go_sem] theorem ty68_fok : fieldsOk Try.prog 68 = true := by kernel_rfl
@[go_sem] theorem ty68_f0 : tyField Try.prog 68 0 = some (0, 3) := by kernel_rfl
@[go_sem] theorem ty68_f1 : tyField Try.prog 68 1 = some (1, 3) := by kernel_rfl
@[go_sem] theorem ty68_f2 : tyField Try.prog 68 2 = some (2, 3) := by kernel_rfl
@[go_sem] theorem ty68_f3 : tyField Try.prog 68 3 = some (3, 66) := by kernel_rfl
@[go_sem] theorem ty68_f4 : tyField Try.prog 68 4 = some (6, 67) := by kernel_rfl
attribute [go_sem] Try.underlying68
@[go_sem] theorem ty69_size : tySize Try.prog 69 = some 7 := by kernel_rfl
@[go_sem] theorem ty69_agg : tyAgg Try.prog 69 = some true := by kernel_rfl
@[go_sem] theorem ty69_bytes : tyBytes Try.prog 69 = some 80 := by kernel_rfl
@[go_sem] theorem ty69_z : tyZ Try.prog 69 = some [.v (.int .i64 0), .v (.int .i64 0), .v (.int .i64 0), .v (.int .i64 0), .v (.int .i64 0), .v (.string ByteArray.empty), .v (.slice none 0 0)] := by kernel_rfl
@[go_sem] theorem ty69_fok : fieldsOk Try.prog 69 = true := by kernel_rfl
@[go_sem] theorem ty69_f0 : tyField Try.prog 69 0 = some (0, 3) := by kernel_rfl
@[go_sem] theorem ty69_f1 : tyField Try.prog 69 1 = some (1, 3) := by kernel_rfl
@[go_sem] theorem ty69_f2 : tyField Try.prog 69 2 = some (2, 3) := by kernel_rfl
@[go_sem] theorem ty69_f3 : tyField Try.prog 69 3 = some (3, 66) := by kernel_rfl
@[go_sem] theorem ty69_f4 : tyField Try.prog 69 4 = some (6, 67) := by kernel_rfl
attribute [go_sem] Try.underlying69
@[go_sem] theorem ty70_size : tySize Try.prog 70 = some 10 := by kernel_rfl
@[go_sem] theorem ty70_agg : tyAgg Try.prog 70 = some true := by kernel_rfl
@[go_sem] theorem ty70_bytes : tyBytes Try.prog 70 = some 120 := by kernel_rfl
@[go_sem] theorem ty70_z : tyZ Try.prog 70 = some [.v (.int .i64 0), .v (.int .i64 0), .v (.int .i64 0), .v (.int .i64 0), .v (.int .i64 0), .v (.int .i64 0), .v (.string ByteArray.empty), .v (.slice none 0 0), .v (.int .i64 0), .v (.slice none 0 0)] := by kernel_rfl
@[go_sem] theorem ty70_fok : fieldsOk Try.prog 70 = true := by kernel_rfl
@[go_sem] theorem ty70_f0 : tyField Try.prog 70 0 = some (0, 3) := by kernel_rfl
@[go_sem] theorem ty70_f1 : tyField Try.prog 70 1 = some (1, 69) := by kernel_rfl
@[go_sem] theorem ty70_f2 : tyField Try.prog 70 2 = some (8, 3) := by kernel_rfl
@[go_sem] theorem ty70_f3 : tyField Try.prog 70 3 = some (9, 22) := by kernel_rfl
attribute [go_sem] Try.underlying70
@[go_sem] theorem ty71_size : tySize Try.prog 71 = some 10 := by kernel_rfl
@[go_sem] theorem ty71_agg : tyAgg Try.prog 71 = some true := by kernel_rfl
@[go_sem] theorem ty71_bytes : tyBytes Try.prog 71 = some 120 := by kernel_rfl
@[go_sem] theorem ty71_z : tyZ Try.prog 71 = some [.v (.int .i64 0), .v (.int .i64 0), .v (.int .i64 0), .v (.int .i64 0), .v (.int .i64 0), .v (.int .i64 0), .v (.string ByteArray.empty), .v (.slice none 0 0), .v (.int .i64 0), .v (.slice none 0 0)] := by kernel_rfl
@[go_sem] theorem ty71_fok : fieldsOk Try.prog 71 = true := by kernel_rfl
@[go_sem] theorem ty71_f0 : tyField Try.prog 71 0 = some (0, 3) := by kernel_rfl
@[go_sem] theorem ty71_f1 : tyField Try.prog 71 1 = some (1, 69) := by kernel_rfl
@[go_sem] theorem ty71_f2 : tyField Try.prog 71 2 = some (8, 3) := by kernel_rfl
@[go_sem] theorem ty71_f3 : tyField Try.prog 71 3 = some (9, 22) := by kernel_rfl
attribute [go_sem] Try.underlying71
@[go_sem] theorem ty72_size : tySize Try.prog 72 = some 6 := by kernel_rfl
@[go_sem] theorem ty72_agg : tyAgg Try.prog 72 = some true := by kernel_rfl
@[go_sem] theorem ty72_bytes : tyBytes Try.prog 72 = some 72 := by kernel_rfl
@[go_sem] theorem ty72_z : tyZ Try.prog 72 = some [.v (.slice none 0 0), .v (.int .i64 0), .v (.bool false), .v (.int .i64 0), .v (.int .i64 0), .v (.string ByteArray.empty)] := by kernel_rfl
@[go_sem] theorem ty72_fok : fieldsOk Try.prog 72 = true := by kernel_rfl
@[go_sem] theorem ty72_f0 : tyField Try.prog 72 0 = some (0, 28) := by kernel_rfl
@[go_sem] theorem ty72_f1 : tyField Try.prog 72 1 = some (1, 3) := by kernel_rfl
@[go_sem] theorem ty72_f2 : tyField Try.prog 72 2 = some (2, 4) := by kernel_rfl
@[go_sem] theorem ty72_f3 : tyField Try.prog 72 3 = some (3, 66) := by kernel_rfl
attribute [go_sem] Try.underlying72
@[go_sem] theorem ty73_size : tySize Try.prog 73 = some 6 := by kernel_rfl
@[go_sem] theorem ty73_agg : tyAgg Try.prog 73 = some true := by kernel_rfl
@[go_sem] theorem ty73_bytes : tyBytes Try.prog 73 = some 72 := by kernel_rfl
@[go_sem] theorem ty73_z : tyZ Try.prog 73 = some [.v (.slice none 0 0), .v (.int .i64 0), .v (.bool false), .v (.int .i64 0), .v (.int .i64 0), .v (.string ByteArray.empty)] := by kernel_rfl
@[go_sem] theorem ty73_fok : fieldsOk Try.prog 73 = true := by kernel_rfl
@[go_sem] theorem ty73_f0 : tyField Try.prog 73 0 = some (0, 28) := by kernel_rfl
@[go_sem] theorem ty73_f1 : tyField Try.prog 73 1 = some (1, 3) := by kernel_rfl
@[go_sem] theorem ty73_f2 : tyField Try.prog 73 2 = some (2, 4) := by kernel_rfl
@[go_sem] theorem ty73_f3 : tyField Try.prog 73 3 = some (3, 66) := by kernel_rfl
attribute [go_sem] Try.underlying73
@[go_sem] theorem ty74_size : tySize Try.prog 74 = some 25 := by kernel_rfl
@[go_sem] theorem ty74_agg : tyAgg Try.prog 74 = some true := by kernel_rfl
@[go_sem] theorem ty74_bytes : tyBytes Try.prog 74 = some 280 := by kernel_rfl
@[go_sem] theorem ty74_z : tyZ Try.prog 74 = some [.v (.int .i64 0), .v (.int .i64 0), .v (.slice none 0 0), .v (.int .i64 0), .v (.int .i64 0), .v (.int .i64 0), .v (.int .i64 0), .v (.int .i64 0), .v (.int .i64 0), .v (.int .i64 0), .v (.string ByteArray.empty), .v (.slice none 0 0), .v (.int .i64 0), .v (.slice none 0 0), .v (.slice none 0 0), .v (.int .i64 0), .v (.bool false), .v (.int .i64 0), .v (.int .i64 0), .v (.string ByteArray.empty), .v (.int .i64 0), .v (.int .i64 0), .v (.int .i64 0), .v (.int .i64 0), .v (.int .i64 0)] := by kernel_rfl
@[go_sem] theorem ty74_fok : fieldsOk Try.prog 74 = true := by kernel_rfl
@[go_sem] theorem ty74_f0 : tyField Try.prog 74 0 = some (0, 3) := by kernel_rfl
@[go_sem] theorem ty74_f1 : tyField Try.prog 74 1 = some (1, 3) := by kernel_rfl
@[go_sem] theorem ty74_f2 : tyField Try.prog 74 2 = some (2, 44) := by kernel_rfl
@[go_sem] theorem ty74_f3 : tyField Try.prog 74 3 = some (3, 3) := by kernel_rfl
@[go_sem] theorem ty74_f4 : tyField Try.prog 74 4 = some (4, 71) := by kernel_rfl
@[go_sem] theorem ty74_f5 : tyField Try.prog 74 5 = some (14, 73) := by kernel_rfl
@[go_sem] theorem ty74_f6 : tyField Try.prog 74 6 = some (20, 3) := by kernel_rfl
@[go_sem] theorem ty74_f7 : tyField Try.prog 74 7 = some (21, 3) := by kernel_rfl
@[go_sem] theorem ty74_f8 : tyField Try.prog 74 8 = some (22, 3) := by kernel_rfl
@[go_sem] theorem ty74_f9 : tyField Try.prog 74 9 = some (23, 3) := by kernel_rfl
@[go_sem] theorem ty74_f10 : tyField Try.prog 74 10 = some (24, 3) := by kernel_rfl
attribute [go_sem] Try.underlying74
@[go_sem] theorem ty75_size : tySize Try.prog 75 = some 25 := by kernel_rfl
@[go_sem] theorem ty75_agg : tyAgg Try.prog 75 = some true := by kernel_rfl
@[go_sem] theorem ty75_bytes : tyBytes Try.prog 75 = some 280 := by kernel_rfl
@[go_sem] theorem ty75_z : tyZ Try.prog 75 = some [.v (.int .i64 0), .v (.int .i64 0), .v (.slice none 0 0), .v (.int .i64 0), .v (.int .i64 0), .v (.int .i64 0), .v (.int .i64 0), .v (.int .i64 0), .v (.int .i64 0), .v (.int .i64 0), .v (.string ByteArray.empty), .v (.slice none 0 0), .v (.int .i64 0), .v (.slice none 0 0), .v (.slice none 0 0), .v (.int .i64 0), .v (.bool false), .v (.int .i64 0), .v (.int .i64 0), .v (.string ByteArray.empty), .v (.int .i64 0), .v (.int .i64 0), .v (.int .i64 0), .v (.int .i64 0), .v (.int .i64 0)] := by kernel_rfl
@[go_sem] theorem ty75_fok : fieldsOk Try.prog 75 = true := by kernel_rfl
@[go_sem] theorem ty75_f0 : tyField Try.prog 75 0 = some (0, 3) := by kernel_rfl
@[go_sem] theorem ty75_f1 : tyField Try.prog 75 1 = some (1, 3) := by kernel_rfl
@[go_sem] theorem ty75_f2 : tyField Try.prog 75 2 = some (2, 44) := by kernel_rfl
@[go_sem] theorem ty75_f3 : tyField Try.prog 75 3 = some (3, 3) := by kernel_rfl
@[go_sem] theorem ty75_f4 : tyField Try.prog 75 4 = some (4, 71) := by kernel_rfl
@[go_sem] theorem ty75_f5 : tyField Try.prog 75 5 = some (14, 73) := by kernel_rfl
@[go_sem] theorem ty75_f6 : tyField Try.prog 75 6 = some (20, 3) := by kernel_rfl
@[go_sem] theorem ty75_f7 : tyField Try.prog 75 7 = some (21, 3) := by kernel_rfl
@[go_sem] theorem ty75_f8 : tyField Try.prog 75 8 = some (22, 3) := by kernel_rfl
@[go_sem] theorem ty75_f9 : tyField Try.prog 75 9 = some (23, 3) := by kernel_rfl
@[go_sem] theorem ty75_f10 : tyField Try.prog 75 10 = some (24, 3) := by kernel_rfl
attribute [go_sem] Try.underlying75
@[go_sem] theorem ty78_size : tySize Try.prog 78 = some 2 := by kernel_rfl
@[go_sem] theorem ty78_agg : tyAgg Try.prog 78 = some true := by kernel_rfl
@[go_sem] theorem ty78_bytes : tyBytes Try.prog 78 = some 32 := by kernel_rfl
@[go_sem] theorem ty78_z : tyZ Try.prog 78 = some [.v (.int .i64 0), .v (.slice none 0 0)] := by kernel_rfl
@[go_sem] theorem ty78_fok : fieldsOk Try.prog 78 = true := by kernel_rfl
@[go_sem] theorem ty78_f0 : tyField Try.prog 78 0 = some (0, 3) := by kernel_rfl
@[go_sem] theorem ty78_f1 : tyField Try.prog 78 1 = some (1, 53) := by kernel_rfl
attribute [go_sem] Try.underlying78
@[go_sem] theorem ty79_size : tySize Try.prog 79 = some 2 := by kernel_rfl
@[go_sem] theorem ty79_agg : tyAgg Try.prog 79 = some true := by kernel_rfl
@[go_sem] theorem ty79_bytes : tyBytes Try.prog 79 = some 32 := by kernel_rfl
@[go_sem] theorem ty79_z : tyZ Try.prog 79 = some [.v (.int .i64 0), .v (.slice none 0 0)] := by kernel_rfl
@[go_sem] theorem ty79_fok : fieldsOk Try.prog 79 = true := by kernel_rfl
@[go_sem] theorem ty79_f0 : tyField Try.prog 79 0 = some (0, 3) := by kernel_rfl
@[go_sem] theorem ty79_f1 : tyField Try.prog 79 1 = some (1, 53) := by kernel_rfl
attribute [go_sem] Try.underlying79
@[go_sem] theorem ty105_size : tySize Try.prog 105 = some 4 := by kernel_rfl
@[go_sem] theorem ty105_agg : tyAgg Try.prog 105 = some true := by kernel_rfl
@[go_sem] theorem ty105_bytes : tyBytes Try.prog 105 = some 40 := by kernel_rfl
@[go_sem] theorem ty105_z : tyZ Try.prog 105 = some [.v (.pointer none), .v (.pointer none), .v (.pointer none), .v (.string ByteArray.empty)] := by kernel_rfl
@[go_sem] theorem ty105_fok : fieldsOk Try.prog 105 = true := by kernel_rfl
@[go_sem] theorem ty105_f0 : tyField Try.prog 105 0 = some (0, 17) := by kernel_rfl
@[go_sem] theorem ty105_f1 : tyField Try.prog 105 1 = some (1, 17) := by kernel_rfl
@[go_sem] theorem ty105_f2 : tyField Try.prog 105 2 = some (2, 17) := by kernel_rfl
@[go_sem] theorem ty105_f3 : tyField Try.prog 105 3 = some (3, 9) := by kernel_rfl
attribute [go_sem] Try.underlying105
@[go_sem] theorem ty107_size : tySize Try.prog 107 = some 0 := by kernel_rfl
@[go_sem] theorem ty107_agg : tyAgg Try.prog 107 = some true := by kernel_rfl
@[go_sem] theorem ty107_bytes : tyBytes Try.prog 107 = some 0 := by kernel_rfl
@[go_sem] theorem ty107_z : tyZ Try.prog 107 = some [] := by kernel_rfl
attribute [go_sem] Try.underlying107
@[go_sem] theorem ty108_size : tySize Try.prog 108 = some 0 := by kernel_rfl
@[go_sem] theorem ty108_agg : tyAgg Try.prog 108 = some true := by kernel_rfl
@[go_sem] theorem ty108_bytes : tyBytes Try.prog 108 = some 0 := by kernel_rfl
@[go_sem] theorem ty108_z : tyZ Try.prog 108 = some [] := by kernel_rfl
@[go_sem] theorem ty108_fok : fieldsOk Try.prog 108 = true := by kernel_rfl
@[go_sem] theorem ty108_f0 : tyField Try.prog 108 0 = some (0, 107) := by kernel_rfl
attribute [go_sem] Try.underlying108
@[go_sem] theorem ty111_size : tySize Try.prog 111 = some 1 := by kernel_rfl
@[go_sem] theorem ty111_agg : tyAgg Try.prog 111 = some false := by kernel_rfl
@[go_sem] theorem ty111_bytes : tyBytes Try.prog 111 = some 4 := by kernel_rfl
@[go_sem] theorem ty111_z : tyZ Try.prog 111 = some [.v (.int .u32 0)] := by kernel_rfl
attribute [go_sem] Try.underlying111
@[go_sem] theorem ty118_size : tySize Try.prog 118 = some 11 := by kernel_rfl
@[go_sem] theorem ty118_agg : tyAgg Try.prog 118 = some true := by kernel_rfl
@[go_sem] theorem ty118_bytes : tyBytes Try.prog 118 = some 48 := by kernel_rfl
@[go_sem] theorem ty118_z : tyZ Try.prog 118 = some [.v (.int .u64 0), .v (.int .u64 0), .v (.int .u32 0), .v (.int .u8 0), .v (.int .u8 0), .v (.int .u8 0), .v (.int .u8 0), .v (.nilFunc), .v (.pointer none), .v (.int .i32 0), .v (.int .i32 0)] := by kernel_rfl
@[go_sem] theorem ty118_fok : fieldsOk Try.prog 118 = true := by kernel_rfl
@[go_sem] theorem ty118_f0 : tyField Try.prog 118 0 = some (0, 12) := by kernel_rfl
@[go_sem] theorem ty118_f1 : tyField Try.prog 118 1 = some (1, 12) := by kernel_rfl
@[go_sem] theorem ty118_f2 : tyField Try.prog 118 2 = some (2, 111) := by kernel_rfl
@[go_sem] theorem ty118_f3 : tyField Try.prog 118 3 = some (3, 112) := by kernel_rfl
@[go_sem] theorem ty118_f4 : tyField Try.prog 118 4 = some (4, 5) := by kernel_rfl
@[go_sem] theorem ty118_f5 : tyField Try.prog 118 5 = some (5, 5) := by kernel_rfl
@[go_sem] theorem ty118_f6 : tyField Try.prog 118 6 = some (6, 113) := by kernel_rfl
@[go_sem] theorem ty118_f7 : tyField Try.prog 118 7 = some (7, 114) := by kernel_rfl
@[go_sem] theorem ty118_f8 : tyField Try.prog 118 8 = some (8, 115) := by kernel_rfl
@[go_sem] theorem ty118_f9 : tyField Try.prog 118 9 = some (9, 116) := by kernel_rfl
@[go_sem] theorem ty118_f10 : tyField Try.prog 118 10 = some (10, 117) := by kernel_rfl
attribute [go_sem] Try.underlying118
@[go_sem] theorem ty120_size : tySize Try.prog 120 = some 1 := by kernel_rfl
@[go_sem] theorem ty120_agg : tyAgg Try.prog 120 = some false := by kernel_rfl
@[go_sem] theorem ty120_bytes : tyBytes Try.prog 120 = some 8 := by kernel_rfl
@[go_sem] theorem ty120_z : tyZ Try.prog 120 = some [.v (.pointer none)] := by kernel_rfl
attribute [go_sem] Try.underlying120
end Go.Proofs.Ytlnaidkchbklcaa
