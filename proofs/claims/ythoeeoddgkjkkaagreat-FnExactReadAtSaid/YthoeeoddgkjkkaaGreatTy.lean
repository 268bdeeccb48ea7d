/- Facts on the types of this seat, by program (gen_ty.py). -/
import Derived.Test.YthoeeoddgkjkkaaGreatVmV
import Derived.Test.YthoeeoddgkjkkaaGreatRows
namespace Go.Proofs.YthoeeoddgkjkkaaGreat
set_option linter.unusedSimpArgs false
set_option linter.unusedVariables false
open Go.Vm
theorem mixed:Tryz.prog.follows .mixedOrders=true:=by kernel_rfl
@[go_sem] theorem AAo:AO Tryz.prog 2=some 1:=by kernel_rfl
@[go_sem] theorem ADd:Aq Tryz.prog 2=some false:=by kernel_rfl
@[go_sem] theorem xI:AQ Tryz.prog 2=some 8:=by kernel_rfl
@[go_sem] theorem AGZ:E8 Tryz.prog 2=some [.v (.int .i64 0)]:=by kernel_rfl
attribute [go_sem] Tryz.underlying2
@[go_sem] theorem AAp:AO Tryz.prog 3=some 1:=by kernel_rfl
@[go_sem] theorem ADe:Aq Tryz.prog 3=some false:=by kernel_rfl
@[go_sem] theorem xJ:AQ Tryz.prog 3=some 8:=by kernel_rfl
@[go_sem] theorem AGa:E8 Tryz.prog 3=some [.v (.int .i64 0)]:=by kernel_rfl
attribute [go_sem] Tryz.underlying3
@[go_sem] theorem AAq:AO Tryz.prog 4=some 1:=by kernel_rfl
@[go_sem] theorem ADf:Aq Tryz.prog 4=some false:=by kernel_rfl
@[go_sem] theorem xK:AQ Tryz.prog 4=some 1:=by kernel_rfl
@[go_sem] theorem AGb:E8 Tryz.prog 4=some [.v (.bool false)]:=by kernel_rfl
attribute [go_sem] Tryz.underlying4
@[go_sem] theorem AAr:AO Tryz.prog 5=some 1:=by kernel_rfl
@[go_sem] theorem ADg:Aq Tryz.prog 5=some false:=by kernel_rfl
@[go_sem] theorem xM:AQ Tryz.prog 5=some 1:=by kernel_rfl
@[go_sem] theorem AGc:E8 Tryz.prog 5=some [.v (.int .u8 0)]:=by kernel_rfl
attribute [go_sem] Tryz.underlying5
@[go_sem] theorem AAs:AO Tryz.prog 9=some 1:=by kernel_rfl
@[go_sem] theorem ADh:Aq Tryz.prog 9=some false:=by kernel_rfl
@[go_sem] theorem xN:AQ Tryz.prog 9=some 16:=by kernel_rfl
@[go_sem] theorem AGd:E8 Tryz.prog 9=some [.v (.string ByteArray.empty)]:=by kernel_rfl
attribute [go_sem] Tryz.underlying9
@[go_sem] theorem xO:AO Tryz.prog 12=some 1:=by kernel_rfl
@[go_sem] theorem AAt:Aq Tryz.prog 12=some false:=by kernel_rfl
@[go_sem] theorem tC:AQ Tryz.prog 12=some 8:=by kernel_rfl
@[go_sem] theorem AFe:E8 Tryz.prog 12=some [.v (.int .u64 0)]:=by kernel_rfl
attribute [go_sem] Tryz.underlying12
@[go_sem] theorem xP:AO Tryz.prog 21=some 1:=by kernel_rfl
@[go_sem] theorem AAu:Aq Tryz.prog 21=some false:=by kernel_rfl
@[go_sem] theorem tH:AQ Tryz.prog 21=some 4:=by kernel_rfl
@[go_sem] theorem AFf:E8 Tryz.prog 21=some [.v (.int .i32 0)]:=by kernel_rfl
attribute [go_sem] Tryz.underlying21
@[go_sem] theorem xQ:AO Tryz.prog 22=some 1:=by kernel_rfl
@[go_sem] theorem AAv:Aq Tryz.prog 22=some false:=by kernel_rfl
@[go_sem] theorem tJ:AQ Tryz.prog 22=some 24:=by kernel_rfl
@[go_sem] theorem AFg:E8 Tryz.prog 22=some [.v (.slice none 0 0)]:=by kernel_rfl
@[go_sem] theorem xR:C_ Tryz.prog 22=some 3:=by kernel_rfl
attribute [go_sem] Tryz.underlying22
@[go_sem] theorem xU:AO Tryz.prog 24=some 3:=by kernel_rfl
@[go_sem] theorem AAw:Aq Tryz.prog 24=some true:=by kernel_rfl
@[go_sem] theorem tK:AQ Tryz.prog 24=some 40:=by kernel_rfl
@[go_sem] theorem AFh:E8 Tryz.prog 24=some [.v (.slice none 0 0),.v (.int .i64 0),.v (.int .i64 0)]:=by kernel_rfl
@[go_sem] theorem AAx:Ak Tryz.prog 24=true:=by kernel_rfl
@[go_sem] theorem ADi:AB Tryz.prog 24 0=some (0,22):=by kernel_rfl
@[go_sem] theorem ADj:AB Tryz.prog 24 1=some (1,3):=by kernel_rfl
@[go_sem] theorem ADk:AB Tryz.prog 24 2=some (2,3):=by kernel_rfl
attribute [go_sem] Tryz.underlying24
@[go_sem] theorem xW:AO Tryz.prog 25=some 1:=by kernel_rfl
@[go_sem] theorem AAy:Aq Tryz.prog 25=some false:=by kernel_rfl
@[go_sem] theorem tN:AQ Tryz.prog 25=some 24:=by kernel_rfl
@[go_sem] theorem AFi:E8 Tryz.prog 25=some [.v (.slice none 0 0)]:=by kernel_rfl
@[go_sem] theorem xX:C_ Tryz.prog 25=some 53:=by kernel_rfl
attribute [go_sem] Tryz.underlying25
@[go_sem] theorem xY:AO Tryz.prog 27=some 2:=by kernel_rfl
@[go_sem] theorem AAz:Aq Tryz.prog 27=some true:=by kernel_rfl
@[go_sem] theorem tV:AQ Tryz.prog 27=some 32:=by kernel_rfl
@[go_sem] theorem AFj:E8 Tryz.prog 27=some [.v (.int .i64 0),.v (.slice none 0 0)]:=by kernel_rfl
@[go_sem] theorem AA0:Ak Tryz.prog 27=true:=by kernel_rfl
@[go_sem] theorem ADl:AB Tryz.prog 27 0=some (0,3):=by kernel_rfl
@[go_sem] theorem ADm:AB Tryz.prog 27 1=some (1,25):=by kernel_rfl
attribute [go_sem] Tryz.underlying27
@[go_sem] theorem xZ:AO Tryz.prog 28=some 1:=by kernel_rfl
@[go_sem] theorem AA1:Aq Tryz.prog 28=some false:=by kernel_rfl
@[go_sem] theorem tX:AQ Tryz.prog 28=some 24:=by kernel_rfl
@[go_sem] theorem AFk:E8 Tryz.prog 28=some [.v (.slice none 0 0)]:=by kernel_rfl
@[go_sem] theorem xe:C_ Tryz.prog 28=some 148:=by kernel_rfl
attribute [go_sem] Tryz.underlying28
@[go_sem] theorem xg:AO Tryz.prog 29=some 1:=by kernel_rfl
@[go_sem] theorem AA2:Aq Tryz.prog 29=some false:=by kernel_rfl
@[go_sem] theorem tY:AQ Tryz.prog 29=some 24:=by kernel_rfl
@[go_sem] theorem AFl:E8 Tryz.prog 29=some [.v (.slice none 0 0)]:=by kernel_rfl
@[go_sem] theorem xh:C_ Tryz.prog 29=some 170:=by kernel_rfl
attribute [go_sem] Tryz.underlying29
@[go_sem] theorem xk:AO Tryz.prog 30=some 1:=by kernel_rfl
@[go_sem] theorem AA3:Aq Tryz.prog 30=some false:=by kernel_rfl
@[go_sem] theorem tZ:AQ Tryz.prog 30=some 24:=by kernel_rfl
@[go_sem] theorem AFm:E8 Tryz.prog 30=some [.v (.slice none 0 0)]:=by kernel_rfl
@[go_sem] theorem xm:C_ Tryz.prog 30=some 153:=by kernel_rfl
attribute [go_sem] Tryz.underlying30
@[go_sem] theorem xq:AO Tryz.prog 31=some 1:=by kernel_rfl
@[go_sem] theorem AA4:Aq Tryz.prog 31=some false:=by kernel_rfl
@[go_sem] theorem tq:AQ Tryz.prog 31=some 24:=by kernel_rfl
@[go_sem] theorem AFn:E8 Tryz.prog 31=some [.v (.slice none 0 0)]:=by kernel_rfl
@[go_sem] theorem xu:C_ Tryz.prog 31=some 158:=by kernel_rfl
attribute [go_sem] Tryz.underlying31
@[go_sem] theorem xw:AO Tryz.prog 33=some 14:=by kernel_rfl
@[go_sem] theorem AA5:Aq Tryz.prog 33=some true:=by kernel_rfl
@[go_sem] theorem tu:AQ Tryz.prog 33=some 240:=by kernel_rfl
@[go_sem] theorem AFo:E8 Tryz.prog 33=some [.v (.slice none 0 0),.v (.int .i64 0),.v (.int .i64 0),.v (.int .i64 0),.v (.int .i64 0),.v (.int .i64 0),.v (.int .i64 0),.v (.slice none 0 0),.v (.slice none 0 0),.v (.slice none 0 0),.v (.slice none 0 0),.v (.slice none 0 0),.v (.slice none 0 0),.v (.slice none 0 0)]:=by kernel_rfl
@[go_sem] theorem AA6:Ak Tryz.prog 33=true:=by kernel_rfl
@[go_sem] theorem ADn:AB Tryz.prog 33 0=some (0,24):=by kernel_rfl
@[go_sem] theorem ADo:AB Tryz.prog 33 1=some (3,3):=by kernel_rfl
@[go_sem] theorem ADp:AB Tryz.prog 33 2=some (4,3):=by kernel_rfl
@[go_sem] theorem ADq:AB Tryz.prog 33 3=some (5,3):=by kernel_rfl
@[go_sem] theorem ADr:AB Tryz.prog 33 4=some (6,27):=by kernel_rfl
@[go_sem] theorem ADs:AB Tryz.prog 33 5=some (8,28):=by kernel_rfl
@[go_sem] theorem ADt:AB Tryz.prog 33 6=some (9,22):=by kernel_rfl
@[go_sem] theorem ADu:AB Tryz.prog 33 7=some (10,29):=by kernel_rfl
@[go_sem] theorem ADv:AB Tryz.prog 33 8=some (11,22):=by kernel_rfl
@[go_sem] theorem ADw:AB Tryz.prog 33 9=some (12,30):=by kernel_rfl
@[go_sem] theorem AA7:AB Tryz.prog 33 10=some (13,31):=by kernel_rfl
attribute [go_sem] Tryz.underlying33
@[go_sem] theorem xx:AO Tryz.prog 37=some 3:=by kernel_rfl
@[go_sem] theorem AA8:Aq Tryz.prog 37=some true:=by kernel_rfl
@[go_sem] theorem t_:AQ Tryz.prog 37=some 40:=by kernel_rfl
@[go_sem] theorem AFp:E8 Tryz.prog 37=some [.v (.slice none 0 0),.v (.int .i64 0),.v (.int .i64 0)]:=by kernel_rfl
@[go_sem] theorem AA9:Ak Tryz.prog 37=true:=by kernel_rfl
@[go_sem] theorem ADx:AB Tryz.prog 37 0=some (0,22):=by kernel_rfl
@[go_sem] theorem ADy:AB Tryz.prog 37 1=some (1,3):=by kernel_rfl
@[go_sem] theorem ADz:AB Tryz.prog 37 2=some (2,3):=by kernel_rfl
attribute [go_sem] Tryz.underlying37
@[go_sem] theorem xy:AO Tryz.prog 38=some 1:=by kernel_rfl
@[go_sem] theorem AA_:Aq Tryz.prog 38=some false:=by kernel_rfl
@[go_sem] theorem uA:AQ Tryz.prog 38=some 24:=by kernel_rfl
@[go_sem] theorem AFq:E8 Tryz.prog 38=some [.v (.slice none 0 0)]:=by kernel_rfl
@[go_sem] theorem x_:C_ Tryz.prog 38=some 56:=by kernel_rfl
attribute [go_sem] Tryz.underlying38
@[go_sem] theorem yA:AO Tryz.prog 40=some 2:=by kernel_rfl
@[go_sem] theorem ABA:Aq Tryz.prog 40=some true:=by kernel_rfl
@[go_sem] theorem uB:AQ Tryz.prog 40=some 32:=by kernel_rfl
@[go_sem] theorem AFr:E8 Tryz.prog 40=some [.v (.int .i64 0),.v (.slice none 0 0)]:=by kernel_rfl
@[go_sem] theorem ABB:Ak Tryz.prog 40=true:=by kernel_rfl
@[go_sem] theorem AD0:AB Tryz.prog 40 0=some (0,3):=by kernel_rfl
@[go_sem] theorem AD1:AB Tryz.prog 40 1=some (1,38):=by kernel_rfl
attribute [go_sem] Tryz.underlying40
@[go_sem] theorem yB:AO Tryz.prog 41=some 1:=by kernel_rfl
@[go_sem] theorem ABC:Aq Tryz.prog 41=some false:=by kernel_rfl
@[go_sem] theorem uC:AQ Tryz.prog 41=some 24:=by kernel_rfl
@[go_sem] theorem AFs:E8 Tryz.prog 41=some [.v (.slice none 0 0)]:=by kernel_rfl
@[go_sem] theorem yC:C_ Tryz.prog 41=some 101:=by kernel_rfl
attribute [go_sem] Tryz.underlying41
@[go_sem] theorem yD:AO Tryz.prog 42=some 1:=by kernel_rfl
@[go_sem] theorem ABD:Aq Tryz.prog 42=some false:=by kernel_rfl
@[go_sem] theorem uD:AQ Tryz.prog 42=some 24:=by kernel_rfl
@[go_sem] theorem AFt:E8 Tryz.prog 42=some [.v (.slice none 0 0)]:=by kernel_rfl
@[go_sem] theorem yE:C_ Tryz.prog 42=some 168:=by kernel_rfl
attribute [go_sem] Tryz.underlying42
@[go_sem] theorem yF:AO Tryz.prog 43=some 1:=by kernel_rfl
@[go_sem] theorem ABE:Aq Tryz.prog 43=some false:=by kernel_rfl
@[go_sem] theorem uF:AQ Tryz.prog 43=some 24:=by kernel_rfl
@[go_sem] theorem AFu:E8 Tryz.prog 43=some [.v (.slice none 0 0)]:=by kernel_rfl
@[go_sem] theorem yG:C_ Tryz.prog 43=some 172:=by kernel_rfl
attribute [go_sem] Tryz.underlying43
@[go_sem] theorem yH:AO Tryz.prog 44=some 1:=by kernel_rfl
@[go_sem] theorem ABF:Aq Tryz.prog 44=some false:=by kernel_rfl
@[go_sem] theorem uG:AQ Tryz.prog 44=some 24:=by kernel_rfl
@[go_sem] theorem AFv:E8 Tryz.prog 44=some [.v (.slice none 0 0)]:=by kernel_rfl
@[go_sem] theorem yI:C_ Tryz.prog 44=some 175:=by kernel_rfl
attribute [go_sem] Tryz.underlying44
@[go_sem] theorem yJ:AO Tryz.prog 46=some 14:=by kernel_rfl
@[go_sem] theorem ABG:Aq Tryz.prog 46=some true:=by kernel_rfl
@[go_sem] theorem uH:AQ Tryz.prog 46=some 240:=by kernel_rfl
@[go_sem] theorem AFw:E8 Tryz.prog 46=some [.v (.slice none 0 0),.v (.int .i64 0),.v (.int .i64 0),.v (.int .i64 0),.v (.int .i64 0),.v (.int .i64 0),.v (.int .i64 0),.v (.slice none 0 0),.v (.slice none 0 0),.v (.slice none 0 0),.v (.slice none 0 0),.v (.slice none 0 0),.v (.slice none 0 0),.v (.slice none 0 0)]:=by kernel_rfl
@[go_sem] theorem ABH:Ak Tryz.prog 46=true:=by kernel_rfl
@[go_sem] theorem AD2:AB Tryz.prog 46 0=some (0,37):=by kernel_rfl
@[go_sem] theorem AD3:AB Tryz.prog 46 1=some (3,3):=by kernel_rfl
@[go_sem] theorem AD4:AB Tryz.prog 46 2=some (4,3):=by kernel_rfl
@[go_sem] theorem AD5:AB Tryz.prog 46 3=some (5,3):=by kernel_rfl
@[go_sem] theorem AD6:AB Tryz.prog 46 4=some (6,40):=by kernel_rfl
@[go_sem] theorem AD7:AB Tryz.prog 46 5=some (8,41):=by kernel_rfl
@[go_sem] theorem AD8:AB Tryz.prog 46 6=some (9,22):=by kernel_rfl
@[go_sem] theorem AD9:AB Tryz.prog 46 7=some (10,42):=by kernel_rfl
@[go_sem] theorem AD_:AB Tryz.prog 46 8=some (11,22):=by kernel_rfl
@[go_sem] theorem AEA:AB Tryz.prog 46 9=some (12,43):=by kernel_rfl
@[go_sem] theorem ABJ:AB Tryz.prog 46 10=some (13,44):=by kernel_rfl
attribute [go_sem] Tryz.underlying46
@[go_sem] theorem yK:AO Tryz.prog 53=some 5:=by kernel_rfl
@[go_sem] theorem ABK:Aq Tryz.prog 53=some true:=by kernel_rfl
@[go_sem] theorem uI:AQ Tryz.prog 53=some 40:=by kernel_rfl
@[go_sem] theorem AFx:E8 Tryz.prog 53=some [.v (.int .i64 0),.v (.int .i64 0),.v (.int .i64 0),.v (.int .i64 0),.v (.int .i64 0)]:=by kernel_rfl
@[go_sem] theorem ABL:Ak Tryz.prog 53=true:=by kernel_rfl
@[go_sem] theorem AEB:AB Tryz.prog 53 0=some (0,3):=by kernel_rfl
@[go_sem] theorem AEC:AB Tryz.prog 53 1=some (1,3):=by kernel_rfl
@[go_sem] theorem AED:AB Tryz.prog 53 2=some (2,3):=by kernel_rfl
@[go_sem] theorem AEE:AB Tryz.prog 53 3=some (3,3):=by kernel_rfl
@[go_sem] theorem AEF:AB Tryz.prog 53 4=some (4,3):=by kernel_rfl
attribute [go_sem] Tryz.underlying53
@[go_sem] theorem yL:AO Tryz.prog 54=some 1:=by kernel_rfl
@[go_sem] theorem ABM:Aq Tryz.prog 54=some false:=by kernel_rfl
@[go_sem] theorem uJ:AQ Tryz.prog 54=some 24:=by kernel_rfl
@[go_sem] theorem AFy:E8 Tryz.prog 54=some [.v (.slice none 0 0)]:=by kernel_rfl
@[go_sem] theorem yM:C_ Tryz.prog 54=some 121:=by kernel_rfl
attribute [go_sem] Tryz.underlying54
@[go_sem] theorem yN:AO Tryz.prog 56=some 5:=by kernel_rfl
@[go_sem] theorem ABN:Aq Tryz.prog 56=some true:=by kernel_rfl
@[go_sem] theorem uK:AQ Tryz.prog 56=some 40:=by kernel_rfl
@[go_sem] theorem AFz:E8 Tryz.prog 56=some [.v (.int .i64 0),.v (.int .i64 0),.v (.int .i64 0),.v (.int .i64 0),.v (.int .i64 0)]:=by kernel_rfl
@[go_sem] theorem ABO:Ak Tryz.prog 56=true:=by kernel_rfl
@[go_sem] theorem ABP:MW Tryz.prog 56=some [.int .i64,.int .i64,.int .i64,.int .i64,.int .i64]:=by kernel_rfl
@[go_sem] theorem AEG:AB Tryz.prog 56 0=some (0,3):=by kernel_rfl
@[go_sem] theorem AEH:AB Tryz.prog 56 1=some (1,3):=by kernel_rfl
@[go_sem] theorem AEI:AB Tryz.prog 56 2=some (2,3):=by kernel_rfl
@[go_sem] theorem AEJ:AB Tryz.prog 56 3=some (3,3):=by kernel_rfl
@[go_sem] theorem AEK:AB Tryz.prog 56 4=some (4,3):=by kernel_rfl
attribute [go_sem] Tryz.underlying56
@[go_sem] theorem yO:AO Tryz.prog 65=some 3:=by kernel_rfl
@[go_sem] theorem ABQ:Aq Tryz.prog 65=some true:=by kernel_rfl
@[go_sem] theorem uM:AQ Tryz.prog 65=some 32:=by kernel_rfl
@[go_sem] theorem AF0:E8 Tryz.prog 65=some [.v (.int .i64 0),.v (.int .i64 0),.v (.string ByteArray.empty)]:=by kernel_rfl
@[go_sem] theorem ABR:Ak Tryz.prog 65=true:=by kernel_rfl
@[go_sem] theorem AEL:AB Tryz.prog 65 0=some (0,3):=by kernel_rfl
@[go_sem] theorem AEM:AB Tryz.prog 65 1=some (1,3):=by kernel_rfl
@[go_sem] theorem AEN:AB Tryz.prog 65 2=some (2,9):=by kernel_rfl
attribute [go_sem] Tryz.underlying65
@[go_sem] theorem yP:AO Tryz.prog 66=some 1:=by kernel_rfl
@[go_sem] theorem ABS:Aq Tryz.prog 66=some false:=by kernel_rfl
@[go_sem] theorem uN:AQ Tryz.prog 66=some 24:=by kernel_rfl
@[go_sem] theorem AF1:E8 Tryz.prog 66=some [.v (.slice none 0 0)]:=by kernel_rfl
@[go_sem] theorem yQ:C_ Tryz.prog 66=some 68:=by kernel_rfl
attribute [go_sem] Tryz.underlying66
@[go_sem] theorem yR:AO Tryz.prog 68=some 7:=by kernel_rfl
@[go_sem] theorem ABT:Aq Tryz.prog 68=some true:=by kernel_rfl
@[go_sem] theorem uO:AQ Tryz.prog 68=some 80:=by kernel_rfl
@[go_sem] theorem AF2:E8 Tryz.prog 68=some [.v (.int .i64 0),.v (.int .i64 0),.v (.int .i64 0),.v (.int .i64 0),.v (.int .i64 0),.v (.string ByteArray.empty),.v (.slice none 0 0)]:=by kernel_rfl
@[go_sem] theorem ABU:Ak Tryz.prog 68=true:=by kernel_rfl
@[go_sem] theorem AEO:AB Tryz.prog 68 0=some (0,3):=by kernel_rfl
@[go_sem] theorem AEP:AB Tryz.prog 68 1=some (1,3):=by kernel_rfl
@[go_sem] theorem AEQ:AB Tryz.prog 68 2=some (2,3):=by kernel_rfl
@[go_sem] theorem AER:AB Tryz.prog 68 3=some (3,65):=by kernel_rfl
@[go_sem] theorem AES:AB Tryz.prog 68 4=some (6,66):=by kernel_rfl
attribute [go_sem] Tryz.underlying68
@[go_sem] theorem yS:AO Tryz.prog 70=some 10:=by kernel_rfl
@[go_sem] theorem ABV:Aq Tryz.prog 70=some true:=by kernel_rfl
@[go_sem] theorem uP:AQ Tryz.prog 70=some 120:=by kernel_rfl
@[go_sem] theorem AF3:E8 Tryz.prog 70=some [.v (.int .i64 0),.v (.int .i64 0),.v (.int .i64 0),.v (.int .i64 0),.v (.int .i64 0),.v (.int .i64 0),.v (.string ByteArray.empty),.v (.slice none 0 0),.v (.int .i64 0),.v (.slice none 0 0)]:=by kernel_rfl
@[go_sem] theorem ABW:Ak Tryz.prog 70=true:=by kernel_rfl
@[go_sem] theorem AET:AB Tryz.prog 70 0=some (0,3):=by kernel_rfl
@[go_sem] theorem AEU:AB Tryz.prog 70 1=some (1,68):=by kernel_rfl
@[go_sem] theorem AEV:AB Tryz.prog 70 2=some (8,3):=by kernel_rfl
@[go_sem] theorem AEW:AB Tryz.prog 70 3=some (9,22):=by kernel_rfl
attribute [go_sem] Tryz.underlying70
@[go_sem] theorem yT:AO Tryz.prog 72=some 3:=by kernel_rfl
@[go_sem] theorem ABX:Aq Tryz.prog 72=some true:=by kernel_rfl
@[go_sem] theorem uQ:AQ Tryz.prog 72=some 32:=by kernel_rfl
@[go_sem] theorem AF4:E8 Tryz.prog 72=some [.v (.int .i64 0),.v (.int .i64 0),.v (.string ByteArray.empty)]:=by kernel_rfl
@[go_sem] theorem ABY:Ak Tryz.prog 72=true:=by kernel_rfl
@[go_sem] theorem ABZ:MW Tryz.prog 72=some [.int .i64,.int .i64,.str]:=by kernel_rfl
@[go_sem] theorem AEX:AB Tryz.prog 72 0=some (0,3):=by kernel_rfl
@[go_sem] theorem AEY:AB Tryz.prog 72 1=some (1,3):=by kernel_rfl
@[go_sem] theorem AEZ:AB Tryz.prog 72 2=some (2,9):=by kernel_rfl
attribute [go_sem] Tryz.underlying72
@[go_sem] theorem yU:AO Tryz.prog 74=some 6:=by kernel_rfl
@[go_sem] theorem ABa:Aq Tryz.prog 74=some true:=by kernel_rfl
@[go_sem] theorem uS:AQ Tryz.prog 74=some 72:=by kernel_rfl
@[go_sem] theorem AF5:E8 Tryz.prog 74=some [.v (.slice none 0 0),.v (.int .i64 0),.v (.bool false),.v (.int .i64 0),.v (.int .i64 0),.v (.string ByteArray.empty)]:=by kernel_rfl
@[go_sem] theorem ABb:Ak Tryz.prog 74=true:=by kernel_rfl
@[go_sem] theorem AEa:AB Tryz.prog 74 0=some (0,54):=by kernel_rfl
@[go_sem] theorem AEb:AB Tryz.prog 74 1=some (1,3):=by kernel_rfl
@[go_sem] theorem AEc:AB Tryz.prog 74 2=some (2,4):=by kernel_rfl
@[go_sem] theorem AEd:AB Tryz.prog 74 3=some (3,72):=by kernel_rfl
attribute [go_sem] Tryz.underlying74
@[go_sem] theorem yV:AO Tryz.prog 76=some 1:=by kernel_rfl
@[go_sem] theorem ABc:Aq Tryz.prog 76=some false:=by kernel_rfl
@[go_sem] theorem uT:AQ Tryz.prog 76=some 24:=by kernel_rfl
@[go_sem] theorem AF6:E8 Tryz.prog 76=some [.v (.slice none 0 0)]:=by kernel_rfl
@[go_sem] theorem yX:C_ Tryz.prog 76=some 78:=by kernel_rfl
attribute [go_sem] Tryz.underlying76
@[go_sem] theorem yY:AO Tryz.prog 78=some 7:=by kernel_rfl
@[go_sem] theorem ABd:Aq Tryz.prog 78=some true:=by kernel_rfl
@[go_sem] theorem uU:AQ Tryz.prog 78=some 80:=by kernel_rfl
@[go_sem] theorem AF7:E8 Tryz.prog 78=some [.v (.int .i64 0),.v (.int .i64 0),.v (.int .i64 0),.v (.int .i64 0),.v (.int .i64 0),.v (.string ByteArray.empty),.v (.slice none 0 0)]:=by kernel_rfl
@[go_sem] theorem ABe:Ak Tryz.prog 78=true:=by kernel_rfl
@[go_sem] theorem AEe:AB Tryz.prog 78 0=some (0,3):=by kernel_rfl
@[go_sem] theorem AEf:AB Tryz.prog 78 1=some (1,3):=by kernel_rfl
@[go_sem] theorem AEg:AB Tryz.prog 78 2=some (2,3):=by kernel_rfl
@[go_sem] theorem AEh:AB Tryz.prog 78 3=some (3,72):=by kernel_rfl
@[go_sem] theorem AEi:AB Tryz.prog 78 4=some (6,76):=by kernel_rfl
attribute [go_sem] Tryz.underlying78
@[go_sem] theorem yZ:AO Tryz.prog 80=some 10:=by kernel_rfl
@[go_sem] theorem ABf:Aq Tryz.prog 80=some true:=by kernel_rfl
@[go_sem] theorem uV:AQ Tryz.prog 80=some 120:=by kernel_rfl
@[go_sem] theorem AF8:E8 Tryz.prog 80=some [.v (.int .i64 0),.v (.int .i64 0),.v (.int .i64 0),.v (.int .i64 0),.v (.int .i64 0),.v (.int .i64 0),.v (.string ByteArray.empty),.v (.slice none 0 0),.v (.int .i64 0),.v (.slice none 0 0)]:=by kernel_rfl
@[go_sem] theorem ABg:Ak Tryz.prog 80=true:=by kernel_rfl
@[go_sem] theorem AEj:AB Tryz.prog 80 0=some (0,3):=by kernel_rfl
@[go_sem] theorem AEk:AB Tryz.prog 80 1=some (1,78):=by kernel_rfl
@[go_sem] theorem AEl:AB Tryz.prog 80 2=some (8,3):=by kernel_rfl
@[go_sem] theorem AEm:AB Tryz.prog 80 3=some (9,22):=by kernel_rfl
attribute [go_sem] Tryz.underlying80
@[go_sem] theorem yc:AO Tryz.prog 96=some 1:=by kernel_rfl
@[go_sem] theorem ABh:Aq Tryz.prog 96=some false:=by kernel_rfl
@[go_sem] theorem uX:AQ Tryz.prog 96=some 24:=by kernel_rfl
@[go_sem] theorem AF9:E8 Tryz.prog 96=some [.v (.slice none 0 0)]:=by kernel_rfl
@[go_sem] theorem yf:C_ Tryz.prog 96=some 162:=by kernel_rfl
attribute [go_sem] Tryz.underlying96
@[go_sem] theorem yg:AO Tryz.prog 98=some 2:=by kernel_rfl
@[go_sem] theorem ABi:Aq Tryz.prog 98=some true:=by kernel_rfl
@[go_sem] theorem uY:AQ Tryz.prog 98=some 32:=by kernel_rfl
@[go_sem] theorem AF_:E8 Tryz.prog 98=some [.v (.int .i64 0),.v (.slice none 0 0)]:=by kernel_rfl
@[go_sem] theorem ABj:Ak Tryz.prog 98=true:=by kernel_rfl
@[go_sem] theorem AEn:AB Tryz.prog 98 0=some (0,3):=by kernel_rfl
@[go_sem] theorem AEo:AB Tryz.prog 98 1=some (1,96):=by kernel_rfl
attribute [go_sem] Tryz.underlying98
@[go_sem] theorem yh:AO Tryz.prog 99=some 1:=by kernel_rfl
@[go_sem] theorem ABk:Aq Tryz.prog 99=some false:=by kernel_rfl
@[go_sem] theorem uZ:AQ Tryz.prog 99=some 24:=by kernel_rfl
@[go_sem] theorem AGA:E8 Tryz.prog 99=some [.v (.slice none 0 0)]:=by kernel_rfl
@[go_sem] theorem yj:C_ Tryz.prog 99=some 5:=by kernel_rfl
attribute [go_sem] Tryz.underlying99
@[go_sem] theorem uf:AO Tryz.prog 101=some 5:=by kernel_rfl
@[go_sem] theorem yl:Aq Tryz.prog 101=some true:=by kernel_rfl
@[go_sem] theorem qM:AQ Tryz.prog 101=some 72:=by kernel_rfl
@[go_sem] theorem AEp:E8 Tryz.prog 101=some [.v (.int .i64 0),.v (.int .i64 0),.v (.int .i64 0),.v (.slice none 0 0),.v (.slice none 0 0)]:=by kernel_rfl
@[go_sem] theorem yu:Ak Tryz.prog 101=true:=by kernel_rfl
@[go_sem] theorem ABl:AB Tryz.prog 101 0=some (0,3):=by kernel_rfl
@[go_sem] theorem ABm:AB Tryz.prog 101 1=some (1,3):=by kernel_rfl
@[go_sem] theorem ABn:AB Tryz.prog 101 2=some (2,98):=by kernel_rfl
@[go_sem] theorem ABo:AB Tryz.prog 101 3=some (4,99):=by kernel_rfl
attribute [go_sem] Tryz.underlying101
@[go_sem] theorem ug:AO Tryz.prog 119=some 1:=by kernel_rfl
@[go_sem] theorem yw:Aq Tryz.prog 119=some false:=by kernel_rfl
@[go_sem] theorem qN:AQ Tryz.prog 119=some 24:=by kernel_rfl
@[go_sem] theorem AEq:E8 Tryz.prog 119=some [.v (.slice none 0 0)]:=by kernel_rfl
@[go_sem] theorem uh:C_ Tryz.prog 119=some 72:=by kernel_rfl
attribute [go_sem] Tryz.underlying119
@[go_sem] theorem ui:AO Tryz.prog 121=some 2:=by kernel_rfl
@[go_sem] theorem yx:Aq Tryz.prog 121=some true:=by kernel_rfl
@[go_sem] theorem qO:AQ Tryz.prog 121=some 32:=by kernel_rfl
@[go_sem] theorem AEr:E8 Tryz.prog 121=some [.v (.int .i64 0),.v (.slice none 0 0)]:=by kernel_rfl
@[go_sem] theorem yz:Ak Tryz.prog 121=true:=by kernel_rfl
@[go_sem] theorem ABp:AB Tryz.prog 121 0=some (0,3):=by kernel_rfl
@[go_sem] theorem ABq:AB Tryz.prog 121 1=some (1,119):=by kernel_rfl
attribute [go_sem] Tryz.underlying121
@[go_sem] theorem uj:AO Tryz.prog 144=some 1:=by kernel_rfl
@[go_sem] theorem y7:Aq Tryz.prog 144=some false:=by kernel_rfl
@[go_sem] theorem qP:AQ Tryz.prog 144=some 24:=by kernel_rfl
@[go_sem] theorem AEs:E8 Tryz.prog 144=some [.v (.slice none 0 0)]:=by kernel_rfl
@[go_sem] theorem uk:C_ Tryz.prog 144=some 243:=by kernel_rfl
attribute [go_sem] Tryz.underlying144
@[go_sem] theorem ul:AO Tryz.prog 146=some 2:=by kernel_rfl
@[go_sem] theorem y8:Aq Tryz.prog 146=some true:=by kernel_rfl
@[go_sem] theorem qQ:AQ Tryz.prog 146=some 32:=by kernel_rfl
@[go_sem] theorem AEt:E8 Tryz.prog 146=some [.v (.int .i64 0),.v (.slice none 0 0)]:=by kernel_rfl
@[go_sem] theorem y9:Ak Tryz.prog 146=true:=by kernel_rfl
@[go_sem] theorem ABr:AB Tryz.prog 146 0=some (0,3):=by kernel_rfl
@[go_sem] theorem ABs:AB Tryz.prog 146 1=some (1,144):=by kernel_rfl
attribute [go_sem] Tryz.underlying146
@[go_sem] theorem um:AO Tryz.prog 148=some 5:=by kernel_rfl
@[go_sem] theorem y_:Aq Tryz.prog 148=some true:=by kernel_rfl
@[go_sem] theorem qR:AQ Tryz.prog 148=some 72:=by kernel_rfl
@[go_sem] theorem AEu:E8 Tryz.prog 148=some [.v (.int .i64 0),.v (.int .i64 0),.v (.int .i64 0),.v (.slice none 0 0),.v (.slice none 0 0)]:=by kernel_rfl
@[go_sem] theorem zA:Ak Tryz.prog 148=true:=by kernel_rfl
@[go_sem] theorem ABt:AB Tryz.prog 148 0=some (0,3):=by kernel_rfl
@[go_sem] theorem ABu:AB Tryz.prog 148 1=some (1,3):=by kernel_rfl
@[go_sem] theorem ABv:AB Tryz.prog 148 2=some (2,146):=by kernel_rfl
@[go_sem] theorem ABw:AB Tryz.prog 148 3=some (4,99):=by kernel_rfl
attribute [go_sem] Tryz.underlying148
@[go_sem] theorem uo:AO Tryz.prog 150=some 1:=by kernel_rfl
@[go_sem] theorem zB:Aq Tryz.prog 150=some false:=by kernel_rfl
@[go_sem] theorem qU:AQ Tryz.prog 150=some 24:=by kernel_rfl
@[go_sem] theorem AEv:E8 Tryz.prog 150=some [.v (.slice none 0 0)]:=by kernel_rfl
@[go_sem] theorem uq:C_ Tryz.prog 150=some 65:=by kernel_rfl
attribute [go_sem] Tryz.underlying150
@[go_sem] theorem uu:AO Tryz.prog 151=some 1:=by kernel_rfl
@[go_sem] theorem zC:Aq Tryz.prog 151=some false:=by kernel_rfl
@[go_sem] theorem qV:AQ Tryz.prog 151=some 24:=by kernel_rfl
@[go_sem] theorem AEw:E8 Tryz.prog 151=some [.v (.slice none 0 0)]:=by kernel_rfl
@[go_sem] theorem uw:C_ Tryz.prog 151=some 228:=by kernel_rfl
attribute [go_sem] Tryz.underlying151
@[go_sem] theorem uy:AO Tryz.prog 153=some 25:=by kernel_rfl
@[go_sem] theorem zD:Aq Tryz.prog 153=some true:=by kernel_rfl
@[go_sem] theorem qW:AQ Tryz.prog 153=some 288:=by kernel_rfl
@[go_sem] theorem AEx:E8 Tryz.prog 153=some [.v (.int .i64 0),.v (.int .i64 0),.v (.int .i64 0),.v (.slice none 0 0),.v (.int .i64 0),.v (.int .i64 0),.v (.int .i64 0),.v (.int .i64 0),.v (.int .i64 0),.v (.int .i64 0),.v (.int .i64 0),.v (.string ByteArray.empty),.v (.slice none 0 0),.v (.int .i64 0),.v (.slice none 0 0),.v (.int .i64 0),.v (.int .i64 0),.v (.slice none 0 0),.v (.int .i64 0),.v (.int .i64 0),.v (.int .i64 0),.v (.int .i64 0),.v (.int .i64 0),.v (.bool false),.v (.slice none 0 0)]:=by kernel_rfl
@[go_sem] theorem zF:Ak Tryz.prog 153=true:=by kernel_rfl
@[go_sem] theorem ABx:AB Tryz.prog 153 0=some (0,3):=by kernel_rfl
@[go_sem] theorem ABy:AB Tryz.prog 153 1=some (1,3):=by kernel_rfl
@[go_sem] theorem ABz:AB Tryz.prog 153 2=some (2,3):=by kernel_rfl
@[go_sem] theorem AB0:AB Tryz.prog 153 3=some (3,150):=by kernel_rfl
@[go_sem] theorem AB1:AB Tryz.prog 153 4=some (4,3):=by kernel_rfl
@[go_sem] theorem AB2:AB Tryz.prog 153 5=some (5,70):=by kernel_rfl
@[go_sem] theorem AB3:AB Tryz.prog 153 6=some (15,3):=by kernel_rfl
@[go_sem] theorem AB4:AB Tryz.prog 153 7=some (16,3):=by kernel_rfl
@[go_sem] theorem AB5:AB Tryz.prog 153 8=some (17,25):=by kernel_rfl
@[go_sem] theorem AB6:AB Tryz.prog 153 9=some (18,3):=by kernel_rfl
@[go_sem] theorem zG:AB Tryz.prog 153 10=some (19,3):=by kernel_rfl
@[go_sem] theorem zH:AB Tryz.prog 153 11=some (20,3):=by kernel_rfl
@[go_sem] theorem zI:AB Tryz.prog 153 12=some (21,3):=by kernel_rfl
@[go_sem] theorem zJ:AB Tryz.prog 153 13=some (22,3):=by kernel_rfl
@[go_sem] theorem zK:AB Tryz.prog 153 14=some (23,4):=by kernel_rfl
@[go_sem] theorem zL:AB Tryz.prog 153 15=some (24,151):=by kernel_rfl
attribute [go_sem] Tryz.underlying153
@[go_sem] theorem uz:AO Tryz.prog 156=some 6:=by kernel_rfl
@[go_sem] theorem zM:Aq Tryz.prog 156=some true:=by kernel_rfl
@[go_sem] theorem qX:AQ Tryz.prog 156=some 72:=by kernel_rfl
@[go_sem] theorem AEy:E8 Tryz.prog 156=some [.v (.slice none 0 0),.v (.int .i64 0),.v (.bool false),.v (.int .i64 0),.v (.int .i64 0),.v (.string ByteArray.empty)]:=by kernel_rfl
@[go_sem] theorem zN:Ak Tryz.prog 156=true:=by kernel_rfl
@[go_sem] theorem AB7:AB Tryz.prog 156 0=some (0,151):=by kernel_rfl
@[go_sem] theorem AB8:AB Tryz.prog 156 1=some (1,3):=by kernel_rfl
@[go_sem] theorem AB9:AB Tryz.prog 156 2=some (2,4):=by kernel_rfl
@[go_sem] theorem AB_:AB Tryz.prog 156 3=some (3,65):=by kernel_rfl
attribute [go_sem] Tryz.underlying156
@[go_sem] theorem u_:AO Tryz.prog 158=some 25:=by kernel_rfl
@[go_sem] theorem zO:Aq Tryz.prog 158=some true:=by kernel_rfl
@[go_sem] theorem qY:AQ Tryz.prog 158=some 280:=by kernel_rfl
@[go_sem] theorem AEz:E8 Tryz.prog 158=some [.v (.int .i64 0),.v (.int .i64 0),.v (.slice none 0 0),.v (.int .i64 0),.v (.int .i64 0),.v (.int .i64 0),.v (.int .i64 0),.v (.int .i64 0),.v (.int .i64 0),.v (.int .i64 0),.v (.string ByteArray.empty),.v (.slice none 0 0),.v (.int .i64 0),.v (.slice none 0 0),.v (.slice none 0 0),.v (.int .i64 0),.v (.bool false),.v (.int .i64 0),.v (.int .i64 0),.v (.string ByteArray.empty),.v (.int .i64 0),.v (.int .i64 0),.v (.int .i64 0),.v (.int .i64 0),.v (.int .i64 0)]:=by kernel_rfl
@[go_sem] theorem zQ:Ak Tryz.prog 158=true:=by kernel_rfl
@[go_sem] theorem ACA:AB Tryz.prog 158 0=some (0,3):=by kernel_rfl
@[go_sem] theorem ACB:AB Tryz.prog 158 1=some (1,3):=by kernel_rfl
@[go_sem] theorem ACC:AB Tryz.prog 158 2=some (2,150):=by kernel_rfl
@[go_sem] theorem ACD:AB Tryz.prog 158 3=some (3,3):=by kernel_rfl
@[go_sem] theorem ACE:AB Tryz.prog 158 4=some (4,70):=by kernel_rfl
@[go_sem] theorem ACF:AB Tryz.prog 158 5=some (14,156):=by kernel_rfl
@[go_sem] theorem ACG:AB Tryz.prog 158 6=some (20,3):=by kernel_rfl
@[go_sem] theorem ACH:AB Tryz.prog 158 7=some (21,3):=by kernel_rfl
@[go_sem] theorem ACI:AB Tryz.prog 158 8=some (22,3):=by kernel_rfl
@[go_sem] theorem ACJ:AB Tryz.prog 158 9=some (23,3):=by kernel_rfl
@[go_sem] theorem zS:AB Tryz.prog 158 10=some (24,3):=by kernel_rfl
attribute [go_sem] Tryz.underlying158
@[go_sem] theorem vC:AO Tryz.prog 162=some 2:=by kernel_rfl
@[go_sem] theorem zT:Aq Tryz.prog 162=some true:=by kernel_rfl
@[go_sem] theorem qZ:AQ Tryz.prog 162=some 32:=by kernel_rfl
@[go_sem] theorem AE0:E8 Tryz.prog 162=some [.v (.int .i64 0),.v (.slice none 0 0)]:=by kernel_rfl
@[go_sem] theorem zU:Ak Tryz.prog 162=true:=by kernel_rfl
@[go_sem] theorem ACK:AB Tryz.prog 162 0=some (0,3):=by kernel_rfl
@[go_sem] theorem ACM:AB Tryz.prog 162 1=some (1,119):=by kernel_rfl
attribute [go_sem] Tryz.underlying162
@[go_sem] theorem vF:AO Tryz.prog 168=some 3:=by kernel_rfl
@[go_sem] theorem zV:Aq Tryz.prog 168=some true:=by kernel_rfl
@[go_sem] theorem qc:AQ Tryz.prog 168=some 24:=by kernel_rfl
@[go_sem] theorem AE1:E8 Tryz.prog 168=some [.v (.int .i64 0),.v (.int .i64 0),.v (.int .i64 0)]:=by kernel_rfl
@[go_sem] theorem zW:Ak Tryz.prog 168=true:=by kernel_rfl
@[go_sem] theorem zX:MW Tryz.prog 168=some [.int .i64,.int .i64,.int .i64]:=by kernel_rfl
@[go_sem] theorem ACN:AB Tryz.prog 168 0=some (0,3):=by kernel_rfl
@[go_sem] theorem ACO:AB Tryz.prog 168 1=some (1,3):=by kernel_rfl
@[go_sem] theorem ACP:AB Tryz.prog 168 2=some (2,3):=by kernel_rfl
attribute [go_sem] Tryz.underlying168
@[go_sem] theorem vG:AO Tryz.prog 170=some 3:=by kernel_rfl
@[go_sem] theorem zY:Aq Tryz.prog 170=some true:=by kernel_rfl
@[go_sem] theorem qf:AQ Tryz.prog 170=some 24:=by kernel_rfl
@[go_sem] theorem AE2:E8 Tryz.prog 170=some [.v (.int .i64 0),.v (.int .i64 0),.v (.int .i64 0)]:=by kernel_rfl
@[go_sem] theorem zZ:Ak Tryz.prog 170=true:=by kernel_rfl
@[go_sem] theorem ACQ:AB Tryz.prog 170 0=some (0,3):=by kernel_rfl
@[go_sem] theorem ACR:AB Tryz.prog 170 1=some (1,3):=by kernel_rfl
@[go_sem] theorem ACS:AB Tryz.prog 170 2=some (2,3):=by kernel_rfl
attribute [go_sem] Tryz.underlying170
@[go_sem] theorem vH:AO Tryz.prog 172=some 25:=by kernel_rfl
@[go_sem] theorem zf:Aq Tryz.prog 172=some true:=by kernel_rfl
@[go_sem] theorem qg:AQ Tryz.prog 172=some 288:=by kernel_rfl
@[go_sem] theorem AE3:E8 Tryz.prog 172=some [.v (.int .i64 0),.v (.int .i64 0),.v (.int .i64 0),.v (.slice none 0 0),.v (.int .i64 0),.v (.int .i64 0),.v (.int .i64 0),.v (.int .i64 0),.v (.int .i64 0),.v (.int .i64 0),.v (.int .i64 0),.v (.string ByteArray.empty),.v (.slice none 0 0),.v (.int .i64 0),.v (.slice none 0 0),.v (.int .i64 0),.v (.int .i64 0),.v (.slice none 0 0),.v (.int .i64 0),.v (.int .i64 0),.v (.int .i64 0),.v (.int .i64 0),.v (.int .i64 0),.v (.bool false),.v (.slice none 0 0)]:=by kernel_rfl
@[go_sem] theorem zg:Ak Tryz.prog 172=true:=by kernel_rfl
@[go_sem] theorem ACT:AB Tryz.prog 172 0=some (0,3):=by kernel_rfl
@[go_sem] theorem ACU:AB Tryz.prog 172 1=some (1,3):=by kernel_rfl
@[go_sem] theorem ACV:AB Tryz.prog 172 2=some (2,3):=by kernel_rfl
@[go_sem] theorem ACW:AB Tryz.prog 172 3=some (3,119):=by kernel_rfl
@[go_sem] theorem ACX:AB Tryz.prog 172 4=some (4,3):=by kernel_rfl
@[go_sem] theorem ACY:AB Tryz.prog 172 5=some (5,80):=by kernel_rfl
@[go_sem] theorem ACZ:AB Tryz.prog 172 6=some (15,3):=by kernel_rfl
@[go_sem] theorem ACa:AB Tryz.prog 172 7=some (16,3):=by kernel_rfl
@[go_sem] theorem ACb:AB Tryz.prog 172 8=some (17,38):=by kernel_rfl
@[go_sem] theorem ACc:AB Tryz.prog 172 9=some (18,3):=by kernel_rfl
@[go_sem] theorem zh:AB Tryz.prog 172 10=some (19,3):=by kernel_rfl
@[go_sem] theorem zi:AB Tryz.prog 172 11=some (20,3):=by kernel_rfl
@[go_sem] theorem zk:AB Tryz.prog 172 12=some (21,3):=by kernel_rfl
@[go_sem] theorem zl:AB Tryz.prog 172 13=some (22,3):=by kernel_rfl
@[go_sem] theorem zn:AB Tryz.prog 172 14=some (23,4):=by kernel_rfl
@[go_sem] theorem zo:AB Tryz.prog 172 15=some (24,54):=by kernel_rfl
attribute [go_sem] Tryz.underlying172
@[go_sem] theorem vI:AO Tryz.prog 175=some 25:=by kernel_rfl
@[go_sem] theorem zq:Aq Tryz.prog 175=some true:=by kernel_rfl
@[go_sem] theorem qh:AQ Tryz.prog 175=some 280:=by kernel_rfl
@[go_sem] theorem AE4:E8 Tryz.prog 175=some [.v (.int .i64 0),.v (.int .i64 0),.v (.slice none 0 0),.v (.int .i64 0),.v (.int .i64 0),.v (.int .i64 0),.v (.int .i64 0),.v (.int .i64 0),.v (.int .i64 0),.v (.int .i64 0),.v (.string ByteArray.empty),.v (.slice none 0 0),.v (.int .i64 0),.v (.slice none 0 0),.v (.slice none 0 0),.v (.int .i64 0),.v (.bool false),.v (.int .i64 0),.v (.int .i64 0),.v (.string ByteArray.empty),.v (.int .i64 0),.v (.int .i64 0),.v (.int .i64 0),.v (.int .i64 0),.v (.int .i64 0)]:=by kernel_rfl
@[go_sem] theorem zt:Ak Tryz.prog 175=true:=by kernel_rfl
@[go_sem] theorem ACd:AB Tryz.prog 175 0=some (0,3):=by kernel_rfl
@[go_sem] theorem ACe:AB Tryz.prog 175 1=some (1,3):=by kernel_rfl
@[go_sem] theorem ACf:AB Tryz.prog 175 2=some (2,119):=by kernel_rfl
@[go_sem] theorem ACg:AB Tryz.prog 175 3=some (3,3):=by kernel_rfl
@[go_sem] theorem ACh:AB Tryz.prog 175 4=some (4,80):=by kernel_rfl
@[go_sem] theorem ACi:AB Tryz.prog 175 5=some (14,74):=by kernel_rfl
@[go_sem] theorem ACj:AB Tryz.prog 175 6=some (20,3):=by kernel_rfl
@[go_sem] theorem ACk:AB Tryz.prog 175 7=some (21,3):=by kernel_rfl
@[go_sem] theorem ACl:AB Tryz.prog 175 8=some (22,3):=by kernel_rfl
@[go_sem] theorem ACm:AB Tryz.prog 175 9=some (23,3):=by kernel_rfl
@[go_sem] theorem zu:AB Tryz.prog 175 10=some (24,3):=by kernel_rfl
attribute [go_sem] Tryz.underlying175
@[go_sem] theorem vJ:AO Tryz.prog 198=some 6:=by kernel_rfl
@[go_sem] theorem zx:Aq Tryz.prog 198=some true:=by kernel_rfl
@[go_sem] theorem qi:AQ Tryz.prog 198=some 64:=by kernel_rfl
@[go_sem] theorem AE5:E8 Tryz.prog 198=some [.v (.int .i64 0),.v (.int .i64 0),.v (.string ByteArray.empty),.v (.int .i64 0),.v (.int .i64 0),.v (.string ByteArray.empty)]:=by kernel_rfl
@[go_sem] theorem zy:Ak Tryz.prog 198=true:=by kernel_rfl
@[go_sem] theorem ACn:AB Tryz.prog 198 0=some (0,72):=by kernel_rfl
@[go_sem] theorem ACo:AB Tryz.prog 198 1=some (3,72):=by kernel_rfl
attribute [go_sem] Tryz.underlying198
@[go_sem] theorem vK:AO Tryz.prog 228=some 2:=by kernel_rfl
@[go_sem] theorem z_:Aq Tryz.prog 228=some true:=by kernel_rfl
@[go_sem] theorem qj:AQ Tryz.prog 228=some 32:=by kernel_rfl
@[go_sem] theorem AE6:E8 Tryz.prog 228=some [.v (.int .i64 0),.v (.slice none 0 0)]:=by kernel_rfl
@[go_sem] theorem AAA:Ak Tryz.prog 228=true:=by kernel_rfl
@[go_sem] theorem ACp:AB Tryz.prog 228 0=some (0,3):=by kernel_rfl
@[go_sem] theorem ACq:AB Tryz.prog 228 1=some (1,150):=by kernel_rfl
attribute [go_sem] Tryz.underlying228
@[go_sem] theorem vM:AO Tryz.prog 243=some 2:=by kernel_rfl
@[go_sem] theorem AAB:Aq Tryz.prog 243=some true:=by kernel_rfl
@[go_sem] theorem ql:AQ Tryz.prog 243=some 32:=by kernel_rfl
@[go_sem] theorem AE7:E8 Tryz.prog 243=some [.v (.int .i64 0),.v (.slice none 0 0)]:=by kernel_rfl
@[go_sem] theorem AAC:Ak Tryz.prog 243=true:=by kernel_rfl
@[go_sem] theorem ACr:AB Tryz.prog 243 0=some (0,3):=by kernel_rfl
@[go_sem] theorem ACs:AB Tryz.prog 243 1=some (1,150):=by kernel_rfl
attribute [go_sem] Tryz.underlying243
@[go_sem] theorem vN:AO Tryz.prog 246=some 1:=by kernel_rfl
@[go_sem] theorem AAD:Aq Tryz.prog 246=some false:=by kernel_rfl
@[go_sem] theorem qm:AQ Tryz.prog 246=some 24:=by kernel_rfl
@[go_sem] theorem AE8:E8 Tryz.prog 246=some [.v (.slice none 0 0)]:=by kernel_rfl
@[go_sem] theorem vO:C_ Tryz.prog 246=some 248:=by kernel_rfl
attribute [go_sem] Tryz.underlying246
@[go_sem] theorem vP:AO Tryz.prog 248=some 4:=by kernel_rfl
@[go_sem] theorem AAE:Aq Tryz.prog 248=some true:=by kernel_rfl
@[go_sem] theorem qo:AQ Tryz.prog 248=some 40:=by kernel_rfl
@[go_sem] theorem AE9:E8 Tryz.prog 248=some [.v (.int .i64 0),.v (.int .i64 0),.v (.string ByteArray.empty),.v (.int .i64 0)]:=by kernel_rfl
@[go_sem] theorem AAF:Ak Tryz.prog 248=true:=by kernel_rfl
@[go_sem] theorem ACt:AB Tryz.prog 248 0=some (0,72):=by kernel_rfl
@[go_sem] theorem ACu:AB Tryz.prog 248 1=some (3,3):=by kernel_rfl
attribute [go_sem] Tryz.underlying248
@[go_sem] theorem vS:AO Tryz.prog 270=some 1:=by kernel_rfl
@[go_sem] theorem AAG:Aq Tryz.prog 270=some false:=by kernel_rfl
@[go_sem] theorem qp:AQ Tryz.prog 270=some 8:=by kernel_rfl
@[go_sem] theorem AE_:E8 Tryz.prog 270=some [.v (.int .u64 0)]:=by kernel_rfl
attribute [go_sem] Tryz.underlying270
@[go_sem] theorem vT:AO Tryz.prog 274=some 1:=by kernel_rfl
@[go_sem] theorem AAH:Aq Tryz.prog 274=some false:=by kernel_rfl
@[go_sem] theorem qw:AQ Tryz.prog 274=some 4:=by kernel_rfl
@[go_sem] theorem AFA:E8 Tryz.prog 274=some [.v (.int .u32 0)]:=by kernel_rfl
attribute [go_sem] Tryz.underlying274
@[go_sem] theorem vU:AO Tryz.prog 276=some 1:=by kernel_rfl
@[go_sem] theorem AAI:Aq Tryz.prog 276=some false:=by kernel_rfl
@[go_sem] theorem qx:AQ Tryz.prog 276=some 8:=by kernel_rfl
@[go_sem] theorem AFB:E8 Tryz.prog 276=some [.v (.int .u64 0)]:=by kernel_rfl
attribute [go_sem] Tryz.underlying276
@[go_sem] theorem vV:AO Tryz.prog 281=some 1:=by kernel_rfl
@[go_sem] theorem AAJ:Aq Tryz.prog 281=some false:=by kernel_rfl
@[go_sem] theorem qy:AQ Tryz.prog 281=some 8:=by kernel_rfl
@[go_sem] theorem AFC:E8 Tryz.prog 281=some [.v (.int .i64 0)]:=by kernel_rfl
attribute [go_sem] Tryz.underlying281
@[go_sem] theorem vW:AO Tryz.prog 288=some 1:=by kernel_rfl
@[go_sem] theorem AAK:Aq Tryz.prog 288=some false:=by kernel_rfl
@[go_sem] theorem rC:AQ Tryz.prog 288=some 8:=by kernel_rfl
@[go_sem] theorem AFD:E8 Tryz.prog 288=some [.v (.int .u64 0)]:=by kernel_rfl
attribute [go_sem] Tryz.underlying288
@[go_sem] theorem vX:AO Tryz.prog 311=some 1:=by kernel_rfl
@[go_sem] theorem AAL:Aq Tryz.prog 311=some false:=by kernel_rfl
@[go_sem] theorem rD:AQ Tryz.prog 311=some 8:=by kernel_rfl
@[go_sem] theorem AFE:E8 Tryz.prog 311=some [.v (.pointer none)]:=by kernel_rfl
attribute [go_sem] Tryz.underlying311
end Go.Proofs.YthoeeoddgkjkkaaGreat
