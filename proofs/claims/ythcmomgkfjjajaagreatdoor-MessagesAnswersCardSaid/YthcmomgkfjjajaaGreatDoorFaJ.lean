import Derived.Test.YthcmomgkfjjajaaGreatDoorAC
import Derived.Test.YthcmomgkfjjajaaGreatDoorProg
set_option linter.unusedVariables false
set_option maxRecDepth 100000
namespace Go.Proofs.YthcmomgkfjjajaaGreatDoor
open Go.Ab
@[reducible] def oI:AS:=.one (.int .i64)
@[reducible] def oS:AS:=.one .str
@[reducible] def oB:AS:=.one .bool
@[reducible] noncomputable def P:Program:=Tryz.prog
@[reducible] def Y0:Ty:=(.pair .bool (.int .i64))
@[reducible] def Y1:Ty:=(.pair .str (.pair .bool Y0))
@[reducible] def Y2:Ty:=(.pair .str (.pair .str Y1))
@[reducible] def Y3:Ty:=(.pair (.int .i64) (.pair (.int .i64) Y2))
@[reducible] def Y4:Ty:=(.pair (.int .i64) (.slice Y3))
@[reducible] def Y5:Ty:=(.pair (.int .i64) (.pair .bool Y4))
@[reducible] def Y6:Ty:=(.pair (.int .i64) (.int .i64))
@[reducible] def Y7:Ty:=(.pair .str (.slice .str))
@[reducible] def Y8:Ty:=(.pair (.slice (.pair (.int .i64) Y6)) Y7)
@[reducible] def Y9:Ty:=(.pair .str (.pair .str Y8))
@[reducible] def Y10:Ty:=(.pair .str (.pair (.int .i64) Y9))
@[reducible] def Y11:Ty:=(.pair (.slice Y10) (.slice (.pair .str Y5)))
@[reducible] def Y12:Ty:=(.pair (.int .i64) .str)
@[reducible] def Y13:Ty:=(.pair .str (.pair .str .bool))
@[reducible] def Y14:Ty:=(.pair .str (.pair .str Y13))
@[reducible] def Y15:Ty:=(.pair (.int .i64) (.ref Y3))
@[reducible] def Y16:Ty:=(.pair (.int .i64) (.pair .bool Y15))
@[reducible] def Y17:Ty:=(.pair (.int .i64) .bool)
@[reducible] def Y18:Ty:=(.pair .str (.pair (.int .i64) Y17))
@[reducible] def Y19:Ty:=(.pair (.pair .str Y14) (.pair Y18 .str))
@[reducible] def Y20:Ty:=(.pair (.int .i64) (.pair (.int .i64) Y3))
abbrev D0:=Bool×Int×Int×List Int×Unit
abbrev D1:=Int×Int×List Int×Unit
abbrev D2:=List Int×Int×Int×Unit
abbrev D3:=(ByteArray×(Bool×(Bool×Int)))
abbrev D4:=(ByteArray×(ByteArray×D3))
abbrev D5:=(Int×(List (Int×(Int×D4))))
abbrev D6:=(ByteArray×(Int×(Bool×D5)))
abbrev D7:=ByteArray×Int×Bool×Int×List (Int×(Int×D4))×ByteArray×Unit
abbrev D8:=List D6×Int×Int×ByteArray×Unit
abbrev D9:=List D6×ByteArray×Unit
abbrev D10:=(ByteArray×(List ByteArray))
abbrev D11:=((List (Int×(Int×Int)))×D10)
abbrev D12:=(ByteArray×(ByteArray×D11))
abbrev D13:=(ByteArray×(Int×D12))
abbrev D14:=((List D13)×(List D6))
abbrev D15:=Int×Bool×List D13×List D6×ByteArray×Int×Bool×Int×List (Int×(Int×D4))×Int×Int×ByteArray×ByteArray×ByteArray×Bool×Bool×Int×Unit
abbrev D16:=D14×D6×(Int×(Int×D4))×Int
abbrev D17:=Bool×Int×Bool×Int×Int×Int×Unit
abbrev D18:=Bool×Int×Int×Int×Int×Unit
abbrev D19:=Bool×Int×Int×Int×Unit
abbrev D20:=List (Int×(Int×Int))×Int×Int×Unit
abbrev D21:=List (Int×(Int×Int))×Unit
abbrev D22:=(List (Int×(Int×Int)))
abbrev D23:=List ByteArray×ByteArray×Int×Int×Unit
abbrev D24:=(List ByteArray)×ByteArray
abbrev D25:=List ByteArray×List ByteArray×Int×Int×Unit
abbrev D26:=List D13×Int×Int×List D13×Int×Int×Unit
abbrev D27:=List D13×List D13×Int×Int×Unit
abbrev D28:=Int×List D13×List D6×ByteArray×Int×Bool×Int×List (Int×(Int×D4))×Unit
abbrev D29:=List D13×List D6×ByteArray×Int×Bool×Int×List (Int×(Int×D4))×Unit
abbrev D30:=Int×List (Int×(Int×D4))×Int×Int×List D13×List D6×ByteArray×Int×Bool×Int×List (Int×(Int×D4))×Unit
abbrev D31:=Int×Int×List D6×Int×Int×List D13×List D6×Unit
abbrev D32:=List D6×Int×Int×List D13×List D6×Unit
abbrev D33:=ByteArray×Int×ByteArray×ByteArray×List (Int×(Int×Int))×ByteArray×List ByteArray×ByteArray×Unit
abbrev D34:=List D13×Int×Int×ByteArray×Unit
abbrev D35:=List D13×ByteArray×Unit
abbrev D36:=Int×Int×Int×List Int×Unit
abbrev D37:=(Int×(Int×Int))×(Int×ByteArray)
abbrev D38:=ByteArray×Int×Int×Int×Int×Int×List Int×List Int×Unit
abbrev D39:=ByteArray×Int×Int×Int×List Int×List Int×Unit
abbrev D40:=(Int×(Int×Int))×ByteArray
abbrev D41:=Int×Int×Int×Int×Int×Int×List Int×Int×Int×Int×Int×Int×List Int×List Int×Unit
abbrev D42:=Int×Int×Int×List Int×Int×Int×Int×Int×Int×List Int×List Int×Unit
abbrev D43:=Int×Int×Int×Int×Int×List Int×List Int×Unit
abbrev D44:=Int×Int×List Int×List Int×Unit
abbrev D45:=Int×Int×Int×Int×List Int×Int×Int×Int×Int×Int×List Int×List Int×Unit
abbrev D46:=Int×Int×List Int×Int×Int×Int×Int×Int×List Int×List Int×Unit
abbrev D47:=ByteArray×Int×Int×Int×Int×Int×ByteArray×Unit
abbrev D48:=(Int×ByteArray)×Int×Int
abbrev D49:=ByteArray×Int×Int×Unit
abbrev D51:=ByteArray×Int×Int×ByteArray×List (Int×(Int×Int))×Int×Int×List ByteArray×Unit
abbrev D52:=ByteArray×Int×Int×ByteArray×List (Int×(Int×Int))×Int×Int×List ByteArray×Int×Int×Int×Unit
abbrev D53:=ByteArray×Int×List (Int×(Int×Int))×Int×Int×List ByteArray×Unit
abbrev D54:=(List (Int×(Int×Int)))×ByteArray
abbrev D55:=ByteArray×List ByteArray×Int×List Int×Unit
abbrev D56:=ByteArray×List ByteArray×Int×Unit
abbrev D57:=ByteArray×List Int×Unit
abbrev D58:=ByteArray×List ByteArray×Unit
abbrev D59:=ByteArray×(List ByteArray)
abbrev D60:=ByteArray×ByteArray×Int
abbrev D61:=ByteArray×Int×List D13×List D6×ByteArray×ByteArray×ByteArray×ByteArray×ByteArray×Bool×Unit
abbrev D62:=List D13×List D6×ByteArray×ByteArray×ByteArray×ByteArray×ByteArray×Bool×Unit
abbrev D63:=(ByteArray×(ByteArray×Bool))
abbrev D64:=(ByteArray×(ByteArray×D63))
abbrev D66:=List D13×Int×List D13×Unit
abbrev D67:=List D13×List D6×List D13×List D6×Unit
abbrev D68:=List D13×List D6×List D13×Unit
abbrev D69:=Int×List D13×List D6×List D13×List D6×List D13×List D6×Unit
abbrev D70:=Int×List D13×List D6×List D13×List D6×List D13×Unit
abbrev D71:=List D13×List D6×List D13×List D6×List D13×Unit
abbrev D73:=List (Int×(Int×D4))×Int×Int×Unit
abbrev D74:=List (Int×(Int×D4))×Unit
abbrev D76:=Int×Int×ByteArray×ByteArray×ByteArray×Bool×Bool×Int×Int×Unit
abbrev D77:=List (Int×(Int×D4))×Int×Int×Int×Unit
abbrev D78:=List (Int×(Int×D4))×Int×Unit
abbrev D80:=List D13×List D6×Int×Int×ByteArray×ByteArray×ByteArray×Bool×Bool×Int×Unit
abbrev D81:=D14×(Int×(Int×D4))
abbrev D85:=Int×Int×ByteArray×Int×Bool×Int×List (Int×(Int×D4))×Unit
abbrev D86:=ByteArray×Int×List D13×List D6×Unit
abbrev D89:=(Int×(Bool×(Int×Nat)))
abbrev D90:=List (Kid (Int×(Int×D4)))×List D13×List (ByteArray×D89)×List D13×List (ByteArray×D89)×Unit
abbrev D95:=List D13×List D6×List (Kid (Int×(Int×D4)))×Unit
abbrev D110:=ByteArray×List D13×List D6×Unit
abbrev D111:=Bool×List D13×List D6×Unit
abbrev D112:=Int×List D13×List D6×Unit
abbrev D113:=List D13×List D6×Unit
abbrev D114:=List ByteArray×Int×Int×List D13×List D6×Unit
abbrev D115:=List ByteArray×List D13×List D6×Unit
abbrev D116:=Int×Int×List D13×List D6×ByteArray×ByteArray×ByteArray×ByteArray×ByteArray×Bool×List (Kid (Int×(Int×D4)))×Unit
abbrev D117:=List D13×List D6×ByteArray×ByteArray×ByteArray×ByteArray×ByteArray×Bool×List D13×List (ByteArray×D89)×List (Kid (Int×(Int×D4)))×Unit
abbrev D118:=List D13×List D6×ByteArray×ByteArray×ByteArray×ByteArray×ByteArray×Bool×Int×Int×ByteArray×ByteArray×ByteArray×Bool×Bool×Int×List D13×List (ByteArray×D89)×List (Kid (Int×(Int×D4)))×Unit
abbrev D119:=Int×Int×List (Kid (Int×(Int×D4)))×List D13×List (ByteArray×D89)×List D13×List (ByteArray×D89)×Unit
abbrev D120:=List D13×List (Kid (Int×(Int×D4)))×List (ByteArray×D89)×Unit
abbrev D121:=Int×List (Kid (Int×(Int×D4)))×Unit
abbrev D122:=List (Kid (Int×(Int×D4)))×Unit
abbrev D123:=Nat×Int×Int×List (Kid (Int×(Int×D4)))×Unit
abbrev D124:=Nat×List (Kid (Int×(Int×D4)))×Unit
abbrev D125:=List D13×ByteArray×Int×Int×ByteArray×ByteArray×ByteArray×Bool×Bool×Int×List (ByteArray×D89)×List (Kid (Int×(Int×D4)))×Unit
abbrev D126:=Int×Int×List (ByteArray×D89)×List (Kid (Int×(Int×D4)))×Unit
abbrev D127:=Int×Int×ByteArray×ByteArray×ByteArray×Bool×Bool×Int×ByteArray×Int×Int×Bool×Unit
abbrev D128:=Bool×ByteArray×Int×Int×Bool×Unit
abbrev D129:=Int×ByteArray×Int×Int×Bool×Unit
abbrev D130:=ByteArray×Int×Int×Bool×Unit
abbrev D131:=List (Int×(Int×D4))×Int×Int×ByteArray×Int×Int×Bool×Unit
abbrev D132:=List (Int×(Int×D4))×ByteArray×Int×Int×Bool×Unit
abbrev D133:=(ByteArray×(Int×(Int×Bool)))
abbrev D134:=List D13×ByteArray×Int×Int×ByteArray×ByteArray×ByteArray×Bool×Bool×Int×ByteArray×List (ByteArray×D89)×List (Kid (Int×(Int×D4)))×Unit
abbrev D135:=Int×List (ByteArray×D89)×List (Kid (Int×(Int×D4)))×Unit
abbrev D136:=List D13×ByteArray×Int×List (ByteArray×D89)×List (Kid (Int×(Int×D4)))×Unit
abbrev D137:=D14×(Int×(Int×D4))×Int
abbrev D138:=D14×(Int×(Int×D4))×ByteArray
abbrev D139:=ByteArray×ByteArray×List D13×List D6×Int×Int×ByteArray×ByteArray×ByteArray×Bool×Bool×Int×List D13×List (ByteArray×D89)×List (Kid (Int×(Int×D4)))×Unit
abbrev D140:=D14×ByteArray×Int×ByteArray
abbrev D141:=ByteArray×List D13×List D6×List Int×List D13×List (ByteArray×D89)×List (Kid (Int×(Int×D4)))×Unit
abbrev D142:=Int×List D13×List (ByteArray×D89)×List (Kid (Int×(Int×D4)))×Unit
abbrev D143:=List D13×List D13×List (ByteArray×D89)×List (ByteArray×D89)×List (Kid (Int×(Int×D4)))×Unit
abbrev D144:=ByteArray×Int×List D13×List D6×List Int×List (Kid (Int×(Int×D4)))×Unit
abbrev D145:=ByteArray×List (Int×(Int×D4))×Int×Int×List D13×List D6×List Int×List D13×List (ByteArray×D89)×List (Kid (Int×(Int×D4)))×Unit
abbrev D146:=ByteArray×Int×List D13×List D6×ByteArray×Int×Bool×Int×List (Int×(Int×D4))×List Int×List D13×List (ByteArray×D89)×List (Kid (Int×(Int×D4)))×Unit
abbrev D147:=ByteArray×Int×Int×List D13×List Int×List D13×List (ByteArray×D89)×List (ByteArray×D89)×List (Kid (Int×(Int×D4)))×Unit
abbrev D148:=ByteArray×Bool×Int×Unit
abbrev D149:=Int×Bool×Int×Int×Int×Unit
abbrev D150:=Int×Int×Int×Int×Unit
abbrev D151:=List ByteArray×ByteArray×Int×Unit
abbrev D152:=Int×ByteArray×Int×ByteArray×ByteArray×List (Int×(Int×Int))×ByteArray×List ByteArray×Unit
abbrev D153:=ByteArray×Int×ByteArray×ByteArray×List (Int×(Int×Int))×ByteArray×List ByteArray×Unit
abbrev D154:=List D13×Int×Int×Unit
abbrev D155:=Int×List D13×List D6×Int×Int×ByteArray×ByteArray×ByteArray×Bool×Bool×Int×Unit
abbrev D156:=Int×Int×Int×ByteArray×ByteArray×ByteArray×Bool×Bool×Int×Unit
abbrev D157:=Int×Int×ByteArray×ByteArray×ByteArray×Bool×Bool×Int×Unit
abbrev D158:=Bool×Int×Int×ByteArray×ByteArray×ByteArray×Bool×Bool×Int×Unit
abbrev D159:=Int×Int×Int×List D13×List D6×ByteArray×Int×Bool×Int×List (Int×(Int×D4))×Unit
abbrev D160:=Int×Int×Int×List D13×List D6×Unit
abbrev D161:=ByteArray×Int×Int×Int×Int×Unit
abbrev D162:=ByteArray×Int×Int×Int×Int×ByteArray×Unit
abbrev D163:=Int×Int×Int×Int×Int×ByteArray×Unit
abbrev D164:=Int×Int×Int×ByteArray×Unit
abbrev D165:=ByteArray×Int×Int×Int×Int×Int×Int×Int×ByteArray×Unit
abbrev D166:=ByteArray×Int×Int×Int×Bool×Int×Int×Int×Int×ByteArray×Unit
abbrev D167:=ByteArray×Int×Int×Int×Int×Int×Int×Int×Int×Int×ByteArray×Unit
abbrev D168:=ByteArray×Int×Int×Int×Int×Int×Int×Int×Int×ByteArray×Unit
abbrev D169:=ByteArray×Int×Int×Int×Int×Int×Int×ByteArray×Unit
abbrev D170:=Int×Int×Int×Int×ByteArray×Unit
abbrev D171:=Int×Int×ByteArray×Unit
abbrev D186:=Int×List D13×List D6×List D13×List D6×Unit
abbrev D187:=List D13×List D6×Int×Int×Int×Int×ByteArray×ByteArray×ByteArray×Bool×Bool×Int×List D13×List D6×Int×Int×Int×Int×ByteArray×ByteArray×ByteArray×Bool×Bool×Int×List D13×List D6×Unit
abbrev D188:=List D13×List D6×Int×Int×Int×Int×ByteArray×ByteArray×ByteArray×Bool×Bool×Int×Int×Int×Int×Int×ByteArray×ByteArray×ByteArray×Bool×Bool×Int×List D13×List D6×List D13×List D6×Unit
abbrev D189:=List D13×List D6×Int×ByteArray×ByteArray×ByteArray×ByteArray×ByteArray×Bool×ByteArray×Int×Int×Bool×ByteArray×Int×Int×Int×Int×ByteArray×ByteArray×ByteArray×Bool×Bool×Int×Int×Int×Int×Int×ByteArray×ByteArray×ByteArray×Bool×Bool×Int×List D13×List D6×List D13×List D6×Unit
abbrev D190:=((ByteArray×D64)×(D133×ByteArray))
abbrev D191:=(Int×(Int×(Int×D4)))
abbrev D192:=List D13×List D6×List (Int×D191)×List D13×List D6×Unit
abbrev D193:=List (Int×D190)×Int×Int×List D13×List D6×List (Int×D191)×List D13×List D6×Unit
abbrev D194:=D14×(List (Int×D190))
abbrev D195:=D14×List (Int×D191)×Int
abbrev D198:=Bool×Int×List D13×List D6×Unit
abbrev D199:=Int×Int×List D13×List D6×Unit
abbrev D200:=List (Int×D190)×Int×Unit
abbrev D201:=List (Int×D190)×List D13×List D6×Unit
abbrev D202:=List (Int×D190)×Int×List Bool×List D13×List D6×Unit
abbrev D203:=List (Int×D190)×List Bool×List D13×List D6×Unit
abbrev D204:=List (Int×D190)×Int×List Bool×List (Int×D190)×List D13×List D6×Unit
abbrev D205:=Int×Int×Int×Int×Int×List (Int×D190)×List D13×List D6×List (Int×D191)×Int×ByteArray×ByteArray×ByteArray×ByteArray×ByteArray×Bool×ByteArray×Int×Int×Bool×ByteArray×Unit
abbrev D206:=Int×Int×Int×List (Int×D190)×List D13×List D6×List (Int×D191)×Unit
abbrev D207:=Int×List (Int×D190)×List D13×List D6×List (Int×D191)×Unit
abbrev D208:=Bool×Int×Int×List (Int×D190)×List D13×List D6×List (Int×D191)×Unit
abbrev D209:=Bool×Int×Int×Int×List (Int×D190)×List D13×List D6×List (Int×D191)×Unit
abbrev D210:=List (Int×D190)×Int×List D13×List D6×Unit
def tab:Tab:=[
 (3,⟨[],.int .i64,1,8,false,some [.int .i64 0],false⟩),
 (4,⟨[],.bool,1,1,false,some [.bool false],false⟩),
 (5,⟨[],.int .u8,1,1,false,some [.int .u8 0],false⟩),
 (9,⟨[],.str,1,16,false,some [.str ByteArray.empty],false⟩),
 (22,⟨[],.slice 82 Y10,1,24,false,some [.emp],false⟩),
 (23,⟨[],.slice 69 (.pair .str Y5),1,24,false,some [.emp],false⟩),
 (25,⟨[(0,82,Y10),(1,69,(.pair .str Y5))],.struct [(22,0,1),(23,1,1)],2,48,true,some [.emp,.emp],false⟩),
 (27,⟨[],.struct [(9,0,1),(9,1,1),(9,2,1),(9,3,1),(9,4,1),(4,5,1)],6,88,true,some [.str ByteArray.empty,.str ByteArray.empty,.str ByteArray.empty,.str ByteArray.empty,.str ByteArray.empty,.bool false],true⟩),
 (31,⟨[],.int .i64,1,8,false,some [.int .i64 0],false⟩),
 (40,⟨[],.struct [(9,0,1),(3,1,1),(3,2,1),(4,3,1)],4,40,true,some [.str ByteArray.empty,.int .i64 0,.int .i64 0,.bool false],true⟩),
 (42,⟨[],.struct [(3,0,1),(3,1,1),(9,2,1),(9,3,1),(9,4,1),(4,5,1),(4,6,1),(3,7,1)],8,80,true,some [.int .i64 0,.int .i64 0,.str ByteArray.empty,.str ByteArray.empty,.str ByteArray.empty,.bool false,.bool false,.int .i64 0],true⟩),
 (57,⟨[],.slice 73 (.pair (.int .i64) Y19),1,24,false,some [.emp],false⟩),
 (59,⟨[],.slice 75 Y20,1,24,false,some [.emp],false⟩),
 (67,⟨[],.slice 42 Y3,1,24,false,some [.emp],false⟩),
 (69,⟨[],.struct [(9,0,1),(3,1,1),(4,2,1),(3,3,1),(67,4,1)],5,64,true,some [.str ByteArray.empty,.int .i64 0,.bool false,.int .i64 0,.emp],false⟩),
 (70,⟨[],.slice 4 .bool,1,24,false,some [.emp],false⟩),
 (73,⟨[],.struct [(3,0,1),(27,1,6),(40,7,4),(9,11,1)],12,152,true,some [.int .i64 0,.str ByteArray.empty,.str ByteArray.empty,.str ByteArray.empty,.str ByteArray.empty,.str ByteArray.empty,.bool false,.str ByteArray.empty,.int .i64 0,.int .i64 0,.bool false,.str ByteArray.empty],true⟩),
 (75,⟨[],.struct [(31,0,1),(3,1,1),(42,2,8)],10,96,true,some [.int .i64 0,.int .i64 0,.int .i64 0,.int .i64 0,.str ByteArray.empty,.str ByteArray.empty,.str ByteArray.empty,.bool false,.bool false,.int .i64 0],true⟩),
 (79,⟨[],.slice 115 (.pair (.int .i64) Y6),1,24,false,some [.emp],false⟩),
 (80,⟨[],.slice 9 .str,1,24,false,some [.emp],false⟩),
 (82,⟨[],.struct [(9,0,1),(3,1,1),(9,2,1),(9,3,1),(79,4,1),(9,5,1),(80,6,1)],7,120,true,some [.str ByteArray.empty,.int .i64 0,.str ByteArray.empty,.str ByteArray.empty,.emp,.str ByteArray.empty,.emp],false⟩),
 (92,⟨[],.slice 3 (.int .i64),1,24,false,some [.emp],false⟩),
 (115,⟨[],.struct [(3,0,1),(3,1,1),(3,2,1)],3,24,true,some [.int .i64 0,.int .i64 0,.int .i64 0],true⟩),
 (124,⟨[],.struct [(3,0,1),(3,1,1)],2,16,true,some [.int .i64 0,.int .i64 0],true⟩),
 (150,⟨[],.slice 31 (.int .i64),1,24,false,some [.emp],false⟩),
 (155,⟨[],.slice 5 (.int .u8),1,24,false,some [.emp],false⟩),
 (167,⟨[],.struct [(165,0,1),(155,1,1)],2,32,true,some [.nil .ptr,.emp],false⟩),
 (176,⟨[],.struct [(3,0,1),(9,1,1)],2,24,true,some [.int .i64 0,.str ByteArray.empty],true⟩),
 (181,⟨[],.struct [(3,0,1),(3,1,1)],2,16,true,some [.int .i64 0,.int .i64 0],true⟩),
 (215,⟨[],.int .i8,1,1,false,some [.int .i8 0],false⟩)]
theorem tm:TM P tab:=⟨by kernel_rfl,by kernel_rfl⟩
def htab0:Tab:=[
 (3,⟨[],.int .i64,1,8,false,some [.int .i64 0],false⟩),
 (4,⟨[],.bool,1,1,false,some [.bool false],false⟩),
 (9,⟨[],.str,1,16,false,some [.str ByteArray.empty],false⟩),
 (22,⟨[],.slice 82 Y10,1,24,false,some [.emp],false⟩),
 (23,⟨[],.slice 69 (.pair .str Y16),1,24,false,some [.emp],false⟩),
 (25,⟨[(0,82,Y10),(1,69,(.pair .str Y16))],.struct [(22,0,1),(23,1,1)],2,48,true,some [.emp,.emp],false⟩),
 (27,⟨[],.struct [(9,0,1),(9,1,1),(9,2,1),(9,3,1),(9,4,1),(4,5,1)],6,88,true,some [.str ByteArray.empty,.str ByteArray.empty,.str ByteArray.empty,.str ByteArray.empty,.str ByteArray.empty,.bool false],true⟩),
 (31,⟨[],.int .i64,1,8,false,some [.int .i64 0],false⟩),
 (40,⟨[],.struct [(9,0,1),(3,1,1),(3,2,1),(4,3,1)],4,40,true,some [.str ByteArray.empty,.int .i64 0,.int .i64 0,.bool false],true⟩),
 (42,⟨[],.struct [(3,0,1),(3,1,1),(9,2,1),(9,3,1),(9,4,1),(4,5,1),(4,6,1),(3,7,1)],8,80,true,some [.int .i64 0,.int .i64 0,.str ByteArray.empty,.str ByteArray.empty,.str ByteArray.empty,.bool false,.bool false,.int .i64 0],true⟩),
 (49,⟨[],.struct [(9,0,1),(3,1,1),(9,2,1)],3,40,true,some [.str ByteArray.empty,.int .i64 0,.str ByteArray.empty],true⟩),
 (67,⟨[],.slice 42 Y3,1,24,false,some [.emp],false⟩),
 (69,⟨[],.struct [(9,0,1),(3,1,1),(4,2,1),(3,3,1),(67,4,1)],5,64,true,some [.str ByteArray.empty,.int .i64 0,.bool false,.int .i64 0,.emp],false⟩),
 (80,⟨[],.slice 9 .str,1,24,false,some [.emp],false⟩),
 (82,⟨[],.struct [(9,0,1),(3,1,1),(9,2,1),(9,3,1),(79,4,1),(9,5,1),(80,6,1)],7,120,true,some [.str ByteArray.empty,.int .i64 0,.str ByteArray.empty,.str ByteArray.empty,.emp,.str ByteArray.empty,.emp],false⟩),
 (92,⟨[],.slice 3 (.int .i64),1,24,false,some [.emp],false⟩),
 (124,⟨[],.struct [(3,0,1),(3,1,1)],2,16,true,some [.int .i64 0,.int .i64 0],true⟩),
 (150,⟨[],.slice 31 (.int .i64),1,24,false,some [.emp],false⟩)]
theorem htm0:TM P htab0:=⟨by kernel_rfl,by kernel_rfl⟩
noncomputable def f762F (k:Nat)(x:Int×Int×Int):Option (Bool) :=
 bif (decide (x.2.1<=x.1)) then
 some (decide (x.1<=x.2.2))
 else
 some false
theorem f762Ok (k:Nat):FnV P 62 [.dat (.int .i64),.dat (.int .i64),.dat (.int .i64)] [.dat .bool] (f762F k) :=
 fs tm TB.nil Tryz.func62 (by kernel_rfl) SumsOk.nil none fun _=>by kernel_rfl
noncomputable def f761F (k:Nat)(x:Bool×Int):Option (Int) :=
 bif x.1 then
 some x.2
 else
 some 0
theorem f761Ok (k:Nat):FnV P 61 [.dat .bool,.dat (.int .i64)] [.dat (.int .i64)] (f761F k) :=
 fs tm TB.nil Tryz.func61 (by kernel_rfl) SumsOk.nil none fun _=>by kernel_rfl
noncomputable def f810F (k:Nat)(x:Int):Option (Bool) :=
 bif (decide (65<=x)) then
 some (decide (x<=90))
 else
 some false
theorem f810Ok (k:Nat):FnV P 110 [.dat (.int .u8)] [.dat .bool] (f810F k) :=
 fs tm TB.nil Tryz.func110 (by kernel_rfl) SumsOk.nil none fun _=>by kernel_rfl
noncomputable def f811F (k:Nat)(x:Int):Option (Bool) :=
 bif (decide (48<=x)) then
 some (decide (x<=57))
 else
 some false
theorem f811Ok (k:Nat):FnV P 111 [.dat (.int .u8)] [.dat .bool] (f811F k) :=
 fs tm TB.nil Tryz.func111 (by kernel_rfl) SumsOk.nil none fun _=>by kernel_rfl
noncomputable def f788T (k:Nat):TB P:=TB.nil |>.u (f811Ok k) |>.u (f810Ok k)
noncomputable def f788p0 {R:Type}(k:Nat)(k0:D0->Option R)(k1:D1->Option R)(v:D1):Option R :=
 bif ((decide (0<=v.2.1))&&(decide (v.2.1<(v.2.2.1.length:Int)))) then
 Option.bind (f811F k (v.2.2.1.getD (Int.toNat v.2.1) 0)) fun y2 =>
 bif (!y2) then
 Option.bind (f810F k (v.2.2.1.getD (Int.toNat v.2.1) 0)) fun y3 =>
 bif (!y3) then
 k0 (false,v.1,v.2.1,v.2.2.1,())
 else
 bif (decide (v.2.1 > 1)) then
 bif (decide ((v.2.2.1.getD (Int.toNat v.2.1) 0) > 70)) then
 k0 (false,v.1,v.2.1,v.2.2.1,())
 else
 k1 (v.1,v.2.1,v.2.2.1,())
 else
 k1 (v.1,v.2.1,v.2.2.1,())
 else
 k1 (v.1,v.2.1,v.2.2.1,())
 else none
noncomputable def f788p0S (k:Nat):=partSum ⟨[(16,.one (.own 0)),(17,oI),(18,oI)],[(0,.row 5 (.int .u8) .mark)],1,[]⟩ ⟨[16,17,18],[],[]⟩ fun R K v=>f788p0 k (fun w=>K .ret (encSt ⟨[(2,oB),(16,.one (.own 0)),(17,oI),(18,oI)],[(0,.row 5 (.int .u8) .mark)],1,[]⟩ w)) (fun w=>K .normal (encSt ⟨[(16,.one (.own 0)),(17,oI),(18,oI)],[(0,.row 5 (.int .u8) .mark)],1,[]⟩ w)) v
theorem f788p0O (k:Nat):SumO P Tryz.f88 934 (f788p0S k):=pt tm (f788T k) ⟨[2,16,17,18],[],[]⟩ SumsOk.nil fun _ _ _=>by kernel_rfl
noncomputable def f788l1s {R:Type}(k:Nat)(rec:D1->Option R)(k0:Bool×Unit->Option R)(k1:Unit->Option R)(v:D1):Option R :=
 bif (decide (v.2.1<v.1)) then
 f788p0 k
 (fun (w4:D0) =>
 k0 (w4.1,()))
 (fun (w5:D1) =>
 rec (w5.1,(IntKind.i64.wrap (w5.2.1+1)),w5.2.2.1,()))
 (v.1,v.2.1,v.2.2.1,())
 else
 k1 (())
noncomputable def f788l1 {R:Type}(k:Nat)(k0:Bool×Unit->Option R)(k1:Unit->Option R)(v:D1):Option R:=iterS (fun rec v=>f788l1s k rec k0 k1 v) k v
noncomputable def f788l1S (k:Nat):=loopSum ⟨[(16,.one (.own 0)),(17,oI),(18,oI)],[(0,.row 5 (.int .u8) .mark)],1,[]⟩ ⟨[16,17,18],[],[]⟩ k fun R rec K v=>f788l1s k rec (fun w=>K .ret (encSt ⟨[(2,oB)],[],0,[]⟩ w)) (fun w=>K (.exit 0) (encSt ⟨[],[],0,[]⟩ w)) v
theorem f788l1O (k:Nat):SumO P Tryz.f88 58 (f788l1S k):=lp tm (f788T k) ⟨[2],[],[]⟩ (SumsOk.nil |>.s (f788p0O k) (by kernel_rfl)) (by kernel_rfl) fun _ _ _ _=>by kernel_rfl
noncomputable def f788F (k:Nat)(x:ByteArray):Option (Bool) :=
 bif ((x.size:Int) !=7) then
 some false
 else
 bif (decide (0<(x.size:Int))) then
 Option.bind (f810F k (bt x 0)) fun y1 =>
 bif (!y1) then
 some false
 else
 bif (sliceBds 1 (x.size:Int) (x.size:Int)) then
 bif (decide ((x.extract 1 (Int.toNat (x.size:Int))).size<=9223372036854775807)) then
 f788l1 k
 (fun (w6:Bool×Unit) =>
 some w6.1)
 (fun (w7:Unit) =>
 some true)
 (((bytesOf (x.extract 1 (Int.toNat (x.size:Int)))).length:Int),0,(bytesOf (x.extract 1 (Int.toNat (x.size:Int)))),())
 else none
 else none
 else none
theorem f788Ok (k:Nat):FnV P 88 [.dat .str] [.dat .bool] (f788F k) :=
 fs tm (f788T k) Tryz.func88 (by kernel_rfl) (SumsOk.nil |>.s (f788l1O k) (by kernel_rfl) |>.s (f788p0O k) (by kernel_rfl)) none fun _=>by kernel_rfl
noncomputable def f832F (k:Nat)(x:Int):Option (Bool) :=
 bif (decide (x<32)) then
 some true
 else
 some (decide (x > 126))
theorem f832Ok (k:Nat):FnV P 132 [.dat (.int .u8)] [.dat .bool] (f832F k) :=
 fs tm TB.nil Tryz.func132 (by kernel_rfl) SumsOk.nil none fun _=>by kernel_rfl
noncomputable def f849v0I:Shape:=⟨[(0,.one (.own 0)),(1,.one (.fn 132 []))],[(0,.row 5 (.int .u8) .mark)],1,[]⟩
noncomputable def f849v0U:Shape:=⟨[(0,oI)],[(0,.row 5 (.int .u8) .mark)],1,[]⟩
noncomputable def f849v0T (k:Nat):TB P:=TB.nil |>.u (f832Ok k)
noncomputable def f849v0l0s {R:Type}(k:Nat)(rec:D1->Option R)(k0:Int×List Int×Unit->Option R)(k1:List Int×Unit->Option R)(v:D1):Option R :=
 bif (decide (v.2.1<v.1)) then
 bif ((decide (0<=v.2.1))&&(decide (v.2.1<(v.2.2.1.length:Int)))) then
 Option.bind (f832F k (v.2.2.1.getD (Int.toNat v.2.1) 0)) fun y1 =>
 bif y1 then
 k0 (v.2.1,v.2.2.1,())
 else
 rec (v.1,(IntKind.i64.wrap (v.2.1+1)),v.2.2.1,())
 else none
 else
 k1 (v.2.2.1,())
noncomputable def f849v0l0 {R:Type}(k:Nat)(k0:Int×List Int×Unit->Option R)(k1:List Int×Unit->Option R)(v:D1):Option R:=iterS (fun rec v=>f849v0l0s k rec k0 k1 v) k v
noncomputable def f849v0l0S (k:Nat):=loopSum ⟨[(0,.one (.own 0)),(1,.one (.fn 132 [])),(7,oI),(8,oI)],[(0,.row 5 (.int .u8) .mark)],1,[some 0]⟩ ⟨[0,1,7,8],[],[]⟩ k fun R rec K v=>f849v0l0s k rec (fun w=>K .ret (encSt ⟨[(4,oI)],[(0,.row 5 (.int .u8) .mark)],1,[some 0]⟩ w)) (fun w=>K (.exit 0) (encSt ⟨[],[(0,.row 5 (.int .u8) .mark)],1,[some 0]⟩ w)) v
theorem f849v0l0O (k:Nat):SumO P Tryz.f149 26 (f849v0l0S k):=lp tm (f849v0T k) ⟨[4],[],[]⟩ SumsOk.nil (by kernel_rfl) fun _ _ _ _=>by kernel_rfl
noncomputable def f849v0F (k:Nat)(x:List Int×Unit):Option (Int×List Int×Unit) :=
 f849v0l0 k
 (fun (w2:Int×List Int×Unit) =>
 some (w2.1,w2.2.1,()))
 (fun (w3:List Int×Unit) =>
 some ((-1),w3.1,()))
 ((x.1.length:Int),0,x.1,())
theorem f849v0Ok (k:Nat):GnV P 149 f849v0I f849v0U (f849v0F k) :=
 gs tm (f849v0T k) Tryz.func149 (by kernel_rfl) (SumsOk.nil |>.s (f849v0l0O k) (by kernel_rfl)) [.dat .bool] [] none fun _=>by kernel_rfl
noncomputable def f831v0I:Shape:=⟨[(0,.one (.own 0)),(1,.one (.fn 132 []))],[(0,.row 5 (.int .u8) .mark)],1,[]⟩
noncomputable def f831v0U:Shape:=⟨[(0,oB)],[(0,.row 5 (.int .u8) .mark)],1,[]⟩
noncomputable def f831v0T (k:Nat):TB P:=TB.nil |>.g (f849v0Ok k)
noncomputable def f831v0F (k:Nat)(x:List Int×Unit):Option (Bool×List Int×Unit) :=
 Option.bind (f849v0F k (x.1,())) fun y1 =>
 some ((decide (y1.1≥0)),y1.2.1,())
theorem f831v0Ok (k:Nat):GnV P 131 f831v0I f831v0U (f831v0F k) :=
 gs tm (f831v0T k) Tryz.func131 (by kernel_rfl) SumsOk.nil [.dat .bool] [] none fun _=>by kernel_rfl
noncomputable def f815T (k:Nat):TB P:=TB.nil |>.g (f831v0Ok k)
noncomputable def f815F (k:Nat)(x:ByteArray):Option (Bool) :=
 bif (decide (x.size<=9223372036854775807)) then
 Option.bind (f831v0F k ((bytesOf x),())) fun y1 =>
 some (!y1.1)
 else none
theorem f815Ok (k:Nat):FnV P 115 [.dat .str] [.dat .bool] (f815F k) :=
 fs tm (f815T k) Tryz.func115 (by kernel_rfl) SumsOk.nil none fun _=>by kernel_rfl
noncomputable def f760l0s {R:Type}(k:Nat)(rec:D2->Option R)(k0:Int×Unit->Option R)(k1:Unit->Option R)(v:D2):Option R :=
 bif (decide (v.2.2.1<v.2.1)) then
 bif ((decide (0<=v.2.2.1))&&(decide (v.2.2.1<(v.1.length:Int)))) then
 bif ((v.1.getD (Int.toNat v.2.2.1) 0) !=0) then
 k0 ((v.1.getD (Int.toNat v.2.2.1) 0),())
 else
 rec (v.1,v.2.1,(IntKind.i64.wrap (v.2.2.1+1)),())
 else none
 else
 k1 (())
noncomputable def f760l0 {R:Type}(k:Nat)(k0:Int×Unit->Option R)(k1:Unit->Option R)(v:D2):Option R:=iterS (fun rec v=>f760l0s k rec k0 k1 v) k v
noncomputable def f760l0S (k:Nat):=loopSum ⟨[(5,.one (.ro (.int .i64))),(6,oI),(7,oI)],[],0,[]⟩ ⟨[5,6,7],[],[]⟩ k fun R rec K v=>f760l0s k rec (fun w=>K .ret (encSt ⟨[(2,oI)],[],0,[]⟩ w)) (fun w=>K (.exit 0) (encSt ⟨[],[],0,[]⟩ w)) v
theorem f760l0O (k:Nat):SumO P Tryz.f60 26 (f760l0S k):=lp tm TB.nil ⟨[2],[],[]⟩ SumsOk.nil (by kernel_rfl) fun _ _ _ _=>by kernel_rfl
noncomputable def f760F (k:Nat)(x:(List Int)):Option (Int) :=
 f760l0 k
 (fun (w1:Int×Unit) =>
 some w1.1)
 (fun (w2:Unit) =>
 some 0)
 (x,(x.length:Int),0,())
theorem f760Ok (k:Nat):FnV P 60 [.dat (.slice (.int .i64))] [.dat (.int .i64)] (f760F k) :=
 fs tm TB.nil Tryz.func60 (by kernel_rfl) (SumsOk.nil |>.s (f760l0O k) (by kernel_rfl)) none fun _=>by kernel_rfl
noncomputable def f797T (k:Nat):TB P:=TB.nil |>.u (f815Ok k) |>.u (f761Ok k) |>.u (f760Ok k)
noncomputable def f797F (k:Nat)(x:ByteArray×Int):Option (Int) :=
 Option.bind (f761F k ((decide ((x.1.size:Int) > x.2)),2)) fun y1 =>
 Option.bind (f815F k x.1) fun y2 =>
 Option.bind (f761F k ((!y2),5)) fun y3 =>
 Option.bind (f760F k [y1,y3]) fun y4 =>
 some y4
theorem f797Ok (k:Nat):FnV P 97 [.dat .str,.dat (.int .i64)] [.dat (.int .i64)] (f797F k) :=
 fs tm (f797T k) Tryz.func97 (by kernel_rfl) SumsOk.nil none fun _=>by kernel_rfl
noncomputable def f796v0I:Shape:=⟨[(0,.agg [.str,.int .i64,.bool,.int .i64,.ro Y3]),(1,.one (.ptr 0 0))],[(0,.var 9 [.str])],1,[]⟩
noncomputable def f796v0U:Shape:=⟨[(0,oB)],[(0,.var 9 [.str])],1,[]⟩
noncomputable def f796v0F (k:Nat)(x:D7):Option (Bool×ByteArray×Unit) :=
 some ((strEq x.1 x.2.2.2.2.2.1),x.2.2.2.2.2.1,())
theorem f796v0Ok (k:Nat):GnV P 96 f796v0I f796v0U (f796v0F k) :=
 gs tm TB.nil Tryz.func96 (by kernel_rfl) SumsOk.nil [.dat .bool] [] none fun _=>by kernel_rfl
noncomputable def f795v0I:Shape:=⟨[(0,.one (.ro (.pair .str Y5))),(1,.one (.fn 96 [0]))],[(0,.var 9 [.str])],1,[]⟩
noncomputable def f795v0U:Shape:=⟨[(0,oI)],[(0,.var 9 [.str])],1,[]⟩
noncomputable def f795v0T (k:Nat):TB P:=TB.nil |>.g (f796v0Ok k)
noncomputable def f795v0l0s {R:Type}(k:Nat)(rec:D8->Option R)(k0:Int×ByteArray×Unit->Option R)(k1:ByteArray×Unit->Option R)(v:D8):Option R :=
 bif (decide (v.2.2.1<v.2.1)) then
 bif ((decide (0<=v.2.2.1))&&(decide (v.2.2.1<(v.1.length:Int)))) then
 let t1:=(v.1.getD (Int.toNat v.2.2.1) (ByteArray.empty,(0,(false,(0,[])))))
 Option.bind (f796v0F k (t1.1,t1.2.1,t1.2.2.1,t1.2.2.2.1,t1.2.2.2.2,v.2.2.2.1,())) fun y2 =>
 bif y2.1 then
 k0 (v.2.2.1,y2.2.1,())
 else
 rec (v.1,v.2.1,(IntKind.i64.wrap (v.2.2.1+1)),y2.2.1,())
 else none
 else
 k1 (v.2.2.2.1,())
noncomputable def f795v0l0 {R:Type}(k:Nat)(k0:Int×ByteArray×Unit->Option R)(k1:ByteArray×Unit->Option R)(v:D8):Option R:=iterS (fun rec v=>f795v0l0s k rec k0 k1 v) k v
noncomputable def f795v0l0S (k:Nat):=loopSum ⟨[(0,.one (.ro (.pair .str Y5))),(1,.one (.fn 96 [0])),(7,oI),(8,oI)],[(0,.var 9 [.str])],1,[some 0]⟩ ⟨[0,1,7,8],[],[]⟩ k fun R rec K v=>f795v0l0s k rec (fun w=>K .ret (encSt ⟨[(4,oI)],[(0,.var 9 [.str])],1,[some 0]⟩ w)) (fun w=>K (.exit 0) (encSt ⟨[],[(0,.var 9 [.str])],1,[some 0]⟩ w)) v
theorem f795v0l0O (k:Nat):SumO P Tryz.f95 26 (f795v0l0S k):=lp tm (f795v0T k) ⟨[4],[],[]⟩ SumsOk.nil (by kernel_rfl) fun _ _ _ _=>by kernel_rfl
noncomputable def f795v0F (k:Nat)(x:D9):Option (Int×ByteArray×Unit) :=
 f795v0l0 k
 (fun (w3:Int×ByteArray×Unit) =>
 some (w3.1,w3.2.1,()))
 (fun (w4:ByteArray×Unit) =>
 some ((-1),w4.1,()))
 (x.1,(x.1.length:Int),0,x.2.1,())
theorem f795v0Ok (k:Nat):GnV P 95 f795v0I f795v0U (f795v0F k) :=
 gs tm (f795v0T k) Tryz.func95 (by kernel_rfl) (SumsOk.nil |>.s (f795v0l0O k) (by kernel_rfl)) [.dat .bool] [] none fun _=>by kernel_rfl
noncomputable def f752T (k:Nat):TB P:=TB.nil |>.g (f795v0Ok k)
noncomputable def f752F (k:Nat)(x:D14×ByteArray):Option (Int) :=
 Option.bind (f795v0F k (x.1.2,x.2,())) fun y1 =>
 some y1.1
theorem f752Ok (k:Nat):FnV P 52 [.agg Y11,.dat .str] [.dat (.int .i64)] (f752F k) :=
 fs tm (f752T k) Tryz.func52 (by kernel_rfl) SumsOk.nil none fun _=>by kernel_rfl
noncomputable def f812T (k:Nat):TB P:=TB.nil |>.u (f797Ok k) |>.u (f788Ok k) |>.u (f762Ok k) |>.u (f761Ok k) |>.u (f760Ok k) |>.u (f752Ok k)
noncomputable def f812p0 {R:Type}(k:Nat)(k0:Int×Unit->Option R)(v:D15):Option R :=
 bif (decide (v.2.2.2.2.2.2.2.2.2.1<=v.1)) then
 Option.bind (f761F k (true,14)) fun y1 =>
 Option.bind (f762F k (v.2.2.2.2.2.2.2.2.2.2.1,0,2)) fun y2 =>
 Option.bind (f761F k ((!y2),4)) fun y3 =>
 bif (!strEq v.2.2.2.2.2.2.2.2.2.2.2.1 ByteArray.empty) then
 Option.bind (f788F k v.2.2.2.2.2.2.2.2.2.2.2.1) fun y4 =>
 Option.bind (f761F k ((!y4),7)) fun y5 =>
 Option.bind (f761F k ((strEq v.2.2.2.2.2.2.2.2.2.2.2.2.1 ByteArray.empty),1)) fun y6 =>
 Option.bind (f797F k (v.2.2.2.2.2.2.2.2.2.2.2.2.1,256)) fun y7 =>
 bif (!strEq v.2.2.2.2.2.2.2.2.2.2.2.2.2.1 ByteArray.empty) then
 Option.bind (f752F k ((v.2.2.1,v.2.2.2.1),v.2.2.2.2.2.2.2.2.2.2.2.2.2.1)) fun y8 =>
 Option.bind (f761F k ((decide (y8<0)),11)) fun y9 =>
 bif (strEq v.2.2.2.2.2.2.2.2.2.2.2.2.2.1 ByteArray.empty) then
 Option.bind (f761F k ((v.2.2.2.2.2.2.2.2.2.2.1 !=0),7)) fun y10 =>
 Option.bind (f761F k (v.2.1,5)) fun y11 =>
 Option.bind (f760F k [y1,y3,y5,y6,y7,y9,y10,y11]) fun y12 =>
 k0 (y12,())
 else
 Option.bind (f761F k (false,7)) fun y13 =>
 Option.bind (f761F k (v.2.1,5)) fun y14 =>
 Option.bind (f760F k [y1,y3,y5,y6,y7,y9,y13,y14]) fun y15 =>
 k0 (y15,())
 else
 Option.bind (f761F k (false,11)) fun y16 =>
 bif (strEq v.2.2.2.2.2.2.2.2.2.2.2.2.2.1 ByteArray.empty) then
 Option.bind (f761F k ((v.2.2.2.2.2.2.2.2.2.2.1 !=0),7)) fun y17 =>
 Option.bind (f761F k (v.2.1,5)) fun y18 =>
 Option.bind (f760F k [y1,y3,y5,y6,y7,y16,y17,y18]) fun y19 =>
 k0 (y19,())
 else
 Option.bind (f761F k (false,7)) fun y20 =>
 Option.bind (f761F k (v.2.1,5)) fun y21 =>
 Option.bind (f760F k [y1,y3,y5,y6,y7,y16,y20,y21]) fun y22 =>
 k0 (y22,())
 else
 Option.bind (f761F k (false,7)) fun y23 =>
 Option.bind (f761F k ((strEq v.2.2.2.2.2.2.2.2.2.2.2.2.1 ByteArray.empty),1)) fun y24 =>
 Option.bind (f797F k (v.2.2.2.2.2.2.2.2.2.2.2.2.1,256)) fun y25 =>
 bif (!strEq v.2.2.2.2.2.2.2.2.2.2.2.2.2.1 ByteArray.empty) then
 Option.bind (f752F k ((v.2.2.1,v.2.2.2.1),v.2.2.2.2.2.2.2.2.2.2.2.2.2.1)) fun y26 =>
 Option.bind (f761F k ((decide (y26<0)),11)) fun y27 =>
 bif (strEq v.2.2.2.2.2.2.2.2.2.2.2.2.2.1 ByteArray.empty) then
 Option.bind (f761F k ((v.2.2.2.2.2.2.2.2.2.2.1 !=0),7)) fun y28 =>
 Option.bind (f761F k (v.2.1,5)) fun y29 =>
 Option.bind (f760F k [y1,y3,y23,y24,y25,y27,y28,y29]) fun y30 =>
 k0 (y30,())
 else
 Option.bind (f761F k (false,7)) fun y31 =>
 Option.bind (f761F k (v.2.1,5)) fun y32 =>
 Option.bind (f760F k [y1,y3,y23,y24,y25,y27,y31,y32]) fun y33 =>
 k0 (y33,())
 else
 Option.bind (f761F k (false,11)) fun y34 =>
 bif (strEq v.2.2.2.2.2.2.2.2.2.2.2.2.2.1 ByteArray.empty) then
 Option.bind (f761F k ((v.2.2.2.2.2.2.2.2.2.2.1 !=0),7)) fun y35 =>
 Option.bind (f761F k (v.2.1,5)) fun y36 =>
 Option.bind (f760F k [y1,y3,y23,y24,y25,y34,y35,y36]) fun y37 =>
 k0 (y37,())
 else
 Option.bind (f761F k (false,7)) fun y38 =>
 Option.bind (f761F k (v.2.1,5)) fun y39 =>
 Option.bind (f760F k [y1,y3,y23,y24,y25,y34,y38,y39]) fun y40 =>
 k0 (y40,())
 else
 Option.bind (f761F k ((decide (v.2.2.2.2.2.2.2.2.2.1≥v.2.2.2.2.2.2.2.1)),14)) fun y41 =>
 Option.bind (f762F k (v.2.2.2.2.2.2.2.2.2.2.1,0,2)) fun y42 =>
 Option.bind (f761F k ((!y42),4)) fun y43 =>
 bif (!strEq v.2.2.2.2.2.2.2.2.2.2.2.1 ByteArray.empty) then
 Option.bind (f788F k v.2.2.2.2.2.2.2.2.2.2.2.1) fun y44 =>
 Option.bind (f761F k ((!y44),7)) fun y45 =>
 Option.bind (f761F k ((strEq v.2.2.2.2.2.2.2.2.2.2.2.2.1 ByteArray.empty),1)) fun y46 =>
 Option.bind (f797F k (v.2.2.2.2.2.2.2.2.2.2.2.2.1,256)) fun y47 =>
 bif (!strEq v.2.2.2.2.2.2.2.2.2.2.2.2.2.1 ByteArray.empty) then
 Option.bind (f752F k ((v.2.2.1,v.2.2.2.1),v.2.2.2.2.2.2.2.2.2.2.2.2.2.1)) fun y48 =>
 Option.bind (f761F k ((decide (y48<0)),11)) fun y49 =>
 bif (strEq v.2.2.2.2.2.2.2.2.2.2.2.2.2.1 ByteArray.empty) then
 Option.bind (f761F k ((v.2.2.2.2.2.2.2.2.2.2.1 !=0),7)) fun y50 =>
 Option.bind (f761F k (v.2.1,5)) fun y51 =>
 Option.bind (f760F k [y41,y43,y45,y46,y47,y49,y50,y51]) fun y52 =>
 k0 (y52,())
 else
 Option.bind (f761F k (false,7)) fun y53 =>
 Option.bind (f761F k (v.2.1,5)) fun y54 =>
 Option.bind (f760F k [y41,y43,y45,y46,y47,y49,y53,y54]) fun y55 =>
 k0 (y55,())
 else
 Option.bind (f761F k (false,11)) fun y56 =>
 bif (strEq v.2.2.2.2.2.2.2.2.2.2.2.2.2.1 ByteArray.empty) then
 Option.bind (f761F k ((v.2.2.2.2.2.2.2.2.2.2.1 !=0),7)) fun y57 =>
 Option.bind (f761F k (v.2.1,5)) fun y58 =>
 Option.bind (f760F k [y41,y43,y45,y46,y47,y56,y57,y58]) fun y59 =>
 k0 (y59,())
 else
 Option.bind (f761F k (false,7)) fun y60 =>
 Option.bind (f761F k (v.2.1,5)) fun y61 =>
 Option.bind (f760F k [y41,y43,y45,y46,y47,y56,y60,y61]) fun y62 =>
 k0 (y62,())
 else
 Option.bind (f761F k (false,7)) fun y63 =>
 Option.bind (f761F k ((strEq v.2.2.2.2.2.2.2.2.2.2.2.2.1 ByteArray.empty),1)) fun y64 =>
 Option.bind (f797F k (v.2.2.2.2.2.2.2.2.2.2.2.2.1,256)) fun y65 =>
 bif (!strEq v.2.2.2.2.2.2.2.2.2.2.2.2.2.1 ByteArray.empty) then
 Option.bind (f752F k ((v.2.2.1,v.2.2.2.1),v.2.2.2.2.2.2.2.2.2.2.2.2.2.1)) fun y66 =>
 Option.bind (f761F k ((decide (y66<0)),11)) fun y67 =>
 bif (strEq v.2.2.2.2.2.2.2.2.2.2.2.2.2.1 ByteArray.empty) then
 Option.bind (f761F k ((v.2.2.2.2.2.2.2.2.2.2.1 !=0),7)) fun y68 =>
 Option.bind (f761F k (v.2.1,5)) fun y69 =>
 Option.bind (f760F k [y41,y43,y63,y64,y65,y67,y68,y69]) fun y70 =>
 k0 (y70,())
 else
 Option.bind (f761F k (false,7)) fun y71 =>
 Option.bind (f761F k (v.2.1,5)) fun y72 =>
 Option.bind (f760F k [y41,y43,y63,y64,y65,y67,y71,y72]) fun y73 =>
 k0 (y73,())
 else
 Option.bind (f761F k (false,11)) fun y74 =>
 bif (strEq v.2.2.2.2.2.2.2.2.2.2.2.2.2.1 ByteArray.empty) then
 Option.bind (f761F k ((v.2.2.2.2.2.2.2.2.2.2.1 !=0),7)) fun y75 =>
 Option.bind (f761F k (v.2.1,5)) fun y76 =>
 Option.bind (f760F k [y41,y43,y63,y64,y65,y74,y75,y76]) fun y77 =>
 k0 (y77,())
 else
 Option.bind (f761F k (false,7)) fun y78 =>
 Option.bind (f761F k (v.2.1,5)) fun y79 =>
 Option.bind (f760F k [y41,y43,y63,y64,y65,y74,y78,y79]) fun y80 =>
 k0 (y80,())
noncomputable def f812p0S (k:Nat):=partSum ⟨[(3,oI),(4,.one (.ptr 0 0)),(5,.one (.ptr 1 0)),(6,.one (.ptr 2 0)),(10,oB)],[(0,.var 25 [.ro Y10,.ro (.pair .str Y5)]),(1,.var 69 [.str,.int .i64,.bool,.int .i64,.ro Y3]),(2,.var 42 [.int .i64,.int .i64,.str,.str,.str,.bool,.bool,.int .i64])],3,[]⟩ ⟨[3,4,5,6,10],[],[]⟩ fun R K v=>f812p0 k (fun w=>K .ret (encSt ⟨[(8,oI)],[],0,[]⟩ w)) v
theorem f812p0O (k:Nat):SumO P Tryz.f112 15 (f812p0S k):=pt tm (f812T k) ⟨[8],[],[]⟩ SumsOk.nil fun _ _ _=>by kernel_rfl
noncomputable def f812F (k:Nat)(x:D16):Option (Int) :=
 bif x.2.2.1.2.2.2.2.2.2.1 then
 bif (x.2.2.1.2.1 !=1) then
 f812p0 k
 (fun (w81:Int×Unit) =>
 some w81.1)
 (x.2.2.2,true,x.1.1,x.1.2,x.2.1.1,x.2.1.2.1,x.2.1.2.2.1,x.2.1.2.2.2.1,x.2.1.2.2.2.2,x.2.2.1.1,x.2.2.1.2.1,x.2.2.1.2.2.1,x.2.2.1.2.2.2.1,x.2.2.1.2.2.2.2.1,x.2.2.1.2.2.2.2.2.1,x.2.2.1.2.2.2.2.2.2.1,x.2.2.1.2.2.2.2.2.2.2,())
 else
 bif (!(x.2.2.1.2.1==2)) then
 bif (x.2.2.1.2.2.2.2.2.2.2 !=0) then
 f812p0 k
 (fun (w82:Int×Unit) =>
 some w82.1)
 (x.2.2.2,true,x.1.1,x.1.2,x.2.1.1,x.2.1.2.1,x.2.1.2.2.1,x.2.1.2.2.2.1,x.2.1.2.2.2.2,x.2.2.1.1,x.2.2.1.2.1,x.2.2.1.2.2.1,x.2.2.1.2.2.2.1,x.2.2.1.2.2.2.2.1,x.2.2.1.2.2.2.2.2.1,x.2.2.1.2.2.2.2.2.2.1,x.2.2.1.2.2.2.2.2.2.2,())
 else
 bif (x.2.2.1.2.1==2) then
 Option.bind (f762F k (x.2.2.1.2.2.2.2.2.2.2,1,1000000)) fun y83 =>
 bif (!y83) then
 f812p0 k
 (fun (w84:Int×Unit) =>
 some w84.1)
 (x.2.2.2,true,x.1.1,x.1.2,x.2.1.1,x.2.1.2.1,x.2.1.2.2.1,x.2.1.2.2.2.1,x.2.1.2.2.2.2,x.2.2.1.1,x.2.2.1.2.1,x.2.2.1.2.2.1,x.2.2.1.2.2.2.1,x.2.2.1.2.2.2.2.1,x.2.2.1.2.2.2.2.2.1,x.2.2.1.2.2.2.2.2.2.1,x.2.2.1.2.2.2.2.2.2.2,())
 else
 f812p0 k
 (fun (w85:Int×Unit) =>
 some w85.1)
 (x.2.2.2,(!strEq x.2.2.1.2.2.1 ByteArray.empty),x.1.1,x.1.2,x.2.1.1,x.2.1.2.1,x.2.1.2.2.1,x.2.1.2.2.2.1,x.2.1.2.2.2.2,x.2.2.1.1,x.2.2.1.2.1,x.2.2.1.2.2.1,x.2.2.1.2.2.2.1,x.2.2.1.2.2.2.2.1,x.2.2.1.2.2.2.2.2.1,x.2.2.1.2.2.2.2.2.2.1,x.2.2.1.2.2.2.2.2.2.2,())
 else
 f812p0 k
 (fun (w86:Int×Unit) =>
 some w86.1)
 (x.2.2.2,false,x.1.1,x.1.2,x.2.1.1,x.2.1.2.1,x.2.1.2.2.1,x.2.1.2.2.2.1,x.2.1.2.2.2.2,x.2.2.1.1,x.2.2.1.2.1,x.2.2.1.2.2.1,x.2.2.1.2.2.2.1,x.2.2.1.2.2.2.2.1,x.2.2.1.2.2.2.2.2.1,x.2.2.1.2.2.2.2.2.2.1,x.2.2.1.2.2.2.2.2.2.2,())
 else
 bif (x.2.2.1.2.1==2) then
 Option.bind (f762F k (x.2.2.1.2.2.2.2.2.2.2,1,1000000)) fun y87 =>
 bif (!y87) then
 f812p0 k
 (fun (w88:Int×Unit) =>
 some w88.1)
 (x.2.2.2,true,x.1.1,x.1.2,x.2.1.1,x.2.1.2.1,x.2.1.2.2.1,x.2.1.2.2.2.1,x.2.1.2.2.2.2,x.2.2.1.1,x.2.2.1.2.1,x.2.2.1.2.2.1,x.2.2.1.2.2.2.1,x.2.2.1.2.2.2.2.1,x.2.2.1.2.2.2.2.2.1,x.2.2.1.2.2.2.2.2.2.1,x.2.2.1.2.2.2.2.2.2.2,())
 else
 f812p0 k
 (fun (w89:Int×Unit) =>
 some w89.1)
 (x.2.2.2,(!strEq x.2.2.1.2.2.1 ByteArray.empty),x.1.1,x.1.2,x.2.1.1,x.2.1.2.1,x.2.1.2.2.1,x.2.1.2.2.2.1,x.2.1.2.2.2.2,x.2.2.1.1,x.2.2.1.2.1,x.2.2.1.2.2.1,x.2.2.1.2.2.2.1,x.2.2.1.2.2.2.2.1,x.2.2.1.2.2.2.2.2.1,x.2.2.1.2.2.2.2.2.2.1,x.2.2.1.2.2.2.2.2.2.2,())
 else
 f812p0 k
 (fun (w90:Int×Unit) =>
 some w90.1)
 (x.2.2.2,false,x.1.1,x.1.2,x.2.1.1,x.2.1.2.1,x.2.1.2.2.1,x.2.1.2.2.2.1,x.2.1.2.2.2.2,x.2.2.1.1,x.2.2.1.2.1,x.2.2.1.2.2.1,x.2.2.1.2.2.2.1,x.2.2.1.2.2.2.2.1,x.2.2.1.2.2.2.2.2.1,x.2.2.1.2.2.2.2.2.2.1,x.2.2.1.2.2.2.2.2.2.2,())
 else
 bif (!(x.2.2.1.2.1==2)) then
 bif (x.2.2.1.2.2.2.2.2.2.2 !=0) then
 f812p0 k
 (fun (w91:Int×Unit) =>
 some w91.1)
 (x.2.2.2,true,x.1.1,x.1.2,x.2.1.1,x.2.1.2.1,x.2.1.2.2.1,x.2.1.2.2.2.1,x.2.1.2.2.2.2,x.2.2.1.1,x.2.2.1.2.1,x.2.2.1.2.2.1,x.2.2.1.2.2.2.1,x.2.2.1.2.2.2.2.1,x.2.2.1.2.2.2.2.2.1,x.2.2.1.2.2.2.2.2.2.1,x.2.2.1.2.2.2.2.2.2.2,())
 else
 bif (x.2.2.1.2.1==2) then
 Option.bind (f762F k (x.2.2.1.2.2.2.2.2.2.2,1,1000000)) fun y92 =>
 bif (!y92) then
 f812p0 k
 (fun (w93:Int×Unit) =>
 some w93.1)
 (x.2.2.2,true,x.1.1,x.1.2,x.2.1.1,x.2.1.2.1,x.2.1.2.2.1,x.2.1.2.2.2.1,x.2.1.2.2.2.2,x.2.2.1.1,x.2.2.1.2.1,x.2.2.1.2.2.1,x.2.2.1.2.2.2.1,x.2.2.1.2.2.2.2.1,x.2.2.1.2.2.2.2.2.1,x.2.2.1.2.2.2.2.2.2.1,x.2.2.1.2.2.2.2.2.2.2,())
 else
 f812p0 k
 (fun (w94:Int×Unit) =>
 some w94.1)
 (x.2.2.2,(!strEq x.2.2.1.2.2.1 ByteArray.empty),x.1.1,x.1.2,x.2.1.1,x.2.1.2.1,x.2.1.2.2.1,x.2.1.2.2.2.1,x.2.1.2.2.2.2,x.2.2.1.1,x.2.2.1.2.1,x.2.2.1.2.2.1,x.2.2.1.2.2.2.1,x.2.2.1.2.2.2.2.1,x.2.2.1.2.2.2.2.2.1,x.2.2.1.2.2.2.2.2.2.1,x.2.2.1.2.2.2.2.2.2.2,())
 else
 f812p0 k
 (fun (w95:Int×Unit) =>
 some w95.1)
 (x.2.2.2,false,x.1.1,x.1.2,x.2.1.1,x.2.1.2.1,x.2.1.2.2.1,x.2.1.2.2.2.1,x.2.1.2.2.2.2,x.2.2.1.1,x.2.2.1.2.1,x.2.2.1.2.2.1,x.2.2.1.2.2.2.1,x.2.2.1.2.2.2.2.1,x.2.2.1.2.2.2.2.2.1,x.2.2.1.2.2.2.2.2.2.1,x.2.2.1.2.2.2.2.2.2.2,())
 else
 bif (x.2.2.1.2.1==2) then
 Option.bind (f762F k (x.2.2.1.2.2.2.2.2.2.2,1,1000000)) fun y96 =>
 bif (!y96) then
 f812p0 k
 (fun (w97:Int×Unit) =>
 some w97.1)
 (x.2.2.2,true,x.1.1,x.1.2,x.2.1.1,x.2.1.2.1,x.2.1.2.2.1,x.2.1.2.2.2.1,x.2.1.2.2.2.2,x.2.2.1.1,x.2.2.1.2.1,x.2.2.1.2.2.1,x.2.2.1.2.2.2.1,x.2.2.1.2.2.2.2.1,x.2.2.1.2.2.2.2.2.1,x.2.2.1.2.2.2.2.2.2.1,x.2.2.1.2.2.2.2.2.2.2,())
 else
 f812p0 k
 (fun (w98:Int×Unit) =>
 some w98.1)
 (x.2.2.2,(!strEq x.2.2.1.2.2.1 ByteArray.empty),x.1.1,x.1.2,x.2.1.1,x.2.1.2.1,x.2.1.2.2.1,x.2.1.2.2.2.1,x.2.1.2.2.2.2,x.2.2.1.1,x.2.2.1.2.1,x.2.2.1.2.2.1,x.2.2.1.2.2.2.1,x.2.2.1.2.2.2.2.1,x.2.2.1.2.2.2.2.2.1,x.2.2.1.2.2.2.2.2.2.1,x.2.2.1.2.2.2.2.2.2.2,())
 else
 f812p0 k
 (fun (w99:Int×Unit) =>
 some w99.1)
 (x.2.2.2,false,x.1.1,x.1.2,x.2.1.1,x.2.1.2.1,x.2.1.2.2.1,x.2.1.2.2.2.1,x.2.1.2.2.2.2,x.2.2.1.1,x.2.2.1.2.1,x.2.2.1.2.2.1,x.2.2.1.2.2.2.1,x.2.2.1.2.2.2.2.1,x.2.2.1.2.2.2.2.2.1,x.2.2.1.2.2.2.2.2.2.1,x.2.2.1.2.2.2.2.2.2.2,())
theorem f812Ok (k:Nat):FnV P 112 [.agg Y11,.agg (.pair .str Y5),.agg Y3,.dat (.int .i64)] [.dat (.int .i64)] (f812F k) :=
 fs tm (f812T k) Tryz.func112 (by kernel_rfl) (SumsOk.nil |>.s (f812p0O k) (by kernel_rfl)) none fun _=>by kernel_rfl
noncomputable def f70F (k:Nat)(x:Int×Int×Int):Option (Bool) :=
 bif (decide (x.2.1<=x.1)) then
 some (decide (x.1<=x.2.2))
 else
 some false
theorem f70Ok (k:Nat):FnV P 150 [.dat (.int .i64),.dat (.int .i64),.dat (.int .i64)] [.dat .bool] (f70F k) :=
 fs tm TB.nil Tryz.func150 (by kernel_rfl) SumsOk.nil none fun _=>by kernel_rfl
noncomputable def f43F (k:Nat)(x:Bool×Int):Option (Int) :=
 bif x.1 then
 some x.2
 else
 some 0
theorem f43Ok (k:Nat):FnV P 152 [.dat .bool,.dat (.int .i64)] [.dat (.int .i64)] (f43F k) :=
 fs tm TB.nil Tryz.func152 (by kernel_rfl) SumsOk.nil none fun _=>by kernel_rfl
noncomputable def f42l0s {R:Type}(k:Nat)(rec:D2->Option R)(k0:Int×Unit->Option R)(k1:Unit->Option R)(v:D2):Option R :=
 bif (decide (v.2.2.1<v.2.1)) then
 bif ((decide (0<=v.2.2.1))&&(decide (v.2.2.1<(v.1.length:Int)))) then
 bif ((v.1.getD (Int.toNat v.2.2.1) 0) !=0) then
 k0 ((v.1.getD (Int.toNat v.2.2.1) 0),())
 else
 rec (v.1,v.2.1,(IntKind.i64.wrap (v.2.2.1+1)),())
 else none
 else
 k1 (())
noncomputable def f42l0 {R:Type}(k:Nat)(k0:Int×Unit->Option R)(k1:Unit->Option R)(v:D2):Option R:=iterS (fun rec v=>f42l0s k rec k0 k1 v) k v
noncomputable def f42l0S (k:Nat):=loopSum ⟨[(5,.one (.ro (.int .i64))),(6,oI),(7,oI)],[],0,[]⟩ ⟨[5,6,7],[],[]⟩ k fun R rec K v=>f42l0s k rec (fun w=>K .ret (encSt ⟨[(2,oI)],[],0,[]⟩ w)) (fun w=>K (.exit 0) (encSt ⟨[],[],0,[]⟩ w)) v
theorem f42l0O (k:Nat):SumO P Tryz.f151 26 (f42l0S k):=lp tm TB.nil ⟨[2],[],[]⟩ SumsOk.nil (by kernel_rfl) fun _ _ _ _=>by kernel_rfl
noncomputable def f42F (k:Nat)(x:(List Int)):Option (Int) :=
 f42l0 k
 (fun (w1:Int×Unit) =>
 some w1.1)
 (fun (w2:Unit) =>
 some 0)
 (x,(x.length:Int),0,())
theorem f42Ok (k:Nat):FnV P 151 [.dat (.slice (.int .i64))] [.dat (.int .i64)] (f42F k) :=
 fs tm TB.nil Tryz.func151 (by kernel_rfl) (SumsOk.nil |>.s (f42l0O k) (by kernel_rfl)) none fun _=>by kernel_rfl
noncomputable def f28T (k:Nat):TB P:=TB.nil |>.u (f43Ok k) |>.u (f42Ok k) |>.u (f70Ok k)
noncomputable def f28p0 {R:Type}(k:Nat)(k0:D17->Option R)(v:D18):Option R :=
 bif (v.2.1==1) then
 k0 (v.1,v.2.1,(v.2.1==1),v.2.2.1,v.2.2.2.1,v.2.2.2.2.1,())
 else
 k0 (v.1,v.2.1,(v.2.1==2),v.2.2.1,v.2.2.2.1,v.2.2.2.2.1,())
noncomputable def f28p0S (k:Nat):=partSum ⟨[(1,.one (.ptr 0 0)),(4,oB),(9,oI)],[(0,.var 115 [.int .i64,.int .i64,.int .i64])],1,[]⟩ ⟨[1,4,9],[],[]⟩ fun R K v=>f28p0 k (fun w=>K .normal (encSt ⟨[(1,.one (.ptr 0 0)),(4,oB),(9,oI),(15,oB)],[(0,.var 115 [.int .i64,.int .i64,.int .i64])],1,[]⟩ w)) v
theorem f28p0O (k:Nat):SumO P Tryz.f134 470 (f28p0S k):=pt tm (f28T k) ⟨[1,2,4,9,15],[],[]⟩ SumsOk.nil fun _ _ _=>by kernel_rfl
noncomputable def f28p1 {R:Type}(k:Nat)(k0:Bool×Bool×Unit->Option R)(k1:Int×Bool×Unit->Option R)(v:D19):Option R :=
 bif (v.2.1==0) then
 Option.bind (f70F k (v.2.2.1,1,256)) fun y1 =>
 k0 (y1,v.1,())
 else
 f28p0 k
 (fun (w2:D17) =>
 bif w2.2.2.1 then
 Option.bind (f70F k (w2.2.2.2.2.1,1,15)) fun y3 =>
 Option.bind (f70F k (w2.2.2.2.2.2.1,0,w2.2.2.2.2.1)) fun y4 =>
 k0 (y3,y4,())
 else
 bif (w2.2.1==3) then
 bif (w2.2.2.2.2.1==4) then
 Option.bind (f70F k (w2.2.2.2.2.2.1,0,w2.2.2.2.2.1)) fun y5 =>
 k0 (true,y5,())
 else
 Option.bind (f70F k (w2.2.2.2.2.2.1,0,w2.2.2.2.2.1)) fun y6 =>
 k0 ((w2.2.2.2.2.1==9),y6,())
 else
 bif (w2.2.1==4) then
 k0 ((w2.2.2.2.2.1==0),w2.1,())
 else
 k1 (4,w2.1,()))
 (v.1,v.2.1,v.2.1,v.2.2.1,v.2.2.2.1,())
noncomputable def f28p1S (k:Nat):=partSum ⟨[(1,.one (.ptr 0 0)),(4,oB)],[(0,.var 115 [.int .i64,.int .i64,.int .i64])],1,[]⟩ ⟨[1,4],[],[]⟩ fun R K v=>f28p1 k (fun w=>K .normal (encSt ⟨[(3,oB),(4,oB)],[],0,[]⟩ w)) (fun w=>K .ret (encSt ⟨[(2,oI),(4,oB)],[],0,[]⟩ w)) v
theorem f28p1O (k:Nat):SumO P Tryz.f134 14 (f28p1S k):=pt tm (f28T k) ⟨[2,3,4],[],[]⟩ (SumsOk.nil |>.s (f28p0O k) (by kernel_rfl)) fun _ _ _=>by kernel_rfl
noncomputable def f28F (k:Nat)(x:(Int×(Int×Int))):Option (Int) :=
 f28p1 k
 (fun (w7:Bool×Bool×Unit) =>
 Option.bind (f43F k ((!w7.1),18)) fun y8 =>
 Option.bind (f43F k ((!w7.2.1),3)) fun y9 =>
 Option.bind (f42F k [y8,y9]) fun y10 =>
 some y10)
 (fun (w11:Int×Bool×Unit) =>
 some w11.1)
 ((x.2.2==0),x.1,x.2.1,x.2.2,())
theorem f28Ok (k:Nat):FnV P 134 [.agg (.pair (.int .i64) Y6)] [.dat (.int .i64)] (f28F k) :=
 fs tm (f28T k) Tryz.func134 (by kernel_rfl) (SumsOk.nil |>.s (f28p1O k) (by kernel_rfl) |>.s (f28p0O k) (by kernel_rfl)) none fun _=>by kernel_rfl
noncomputable def f833T (k:Nat):TB P:=TB.nil |>.u (f28Ok k)
noncomputable def f833F (k:Nat)(x:(Int×(Int×Int))):Option (Bool) :=
 bif (x.1==4) then
 some true
 else
 Option.bind (f28F k (x.1,(x.2.1,x.2.2))) fun y1 =>
 some (y1 !=0)
theorem f833Ok (k:Nat):FnV P 133 [.agg (.pair (.int .i64) Y6)] [.dat .bool] (f833F k) :=
 fs tm (f833T k) Tryz.func133 (by kernel_rfl) SumsOk.nil none fun _=>by kernel_rfl
noncomputable def f853v0I:Shape:=⟨[(0,.one (.ro (.pair (.int .i64) Y6))),(1,.one (.fn 133 []))],[],0,[]⟩
noncomputable def f853v0U:Shape:=⟨[(0,oI)],[],0,[]⟩
noncomputable def f853v0T (k:Nat):TB P:=TB.nil |>.u (f833Ok k)
noncomputable def f853v0l0s {R:Type}(k:Nat)(rec:D20->Option R)(k0:Int×Unit->Option R)(k1:Unit->Option R)(v:D20):Option R :=
 bif (decide (v.2.2.1<v.2.1)) then
 bif ((decide (0<=v.2.2.1))&&(decide (v.2.2.1<(v.1.length:Int)))) then
 Option.bind (f833F k ((v.1.getD (Int.toNat v.2.2.1) (0,(0,0))).1,((v.1.getD (Int.toNat v.2.2.1) (0,(0,0))).2.1,(v.1.getD (Int.toNat v.2.2.1) (0,(0,0))).2.2))) fun y1 =>
 bif y1 then
 k0 (v.2.2.1,())
 else
 rec (v.1,v.2.1,(IntKind.i64.wrap (v.2.2.1+1)),())
 else none
 else
 k1 (())
noncomputable def f853v0l0 {R:Type}(k:Nat)(k0:Int×Unit->Option R)(k1:Unit->Option R)(v:D20):Option R:=iterS (fun rec v=>f853v0l0s k rec k0 k1 v) k v
noncomputable def f853v0l0S (k:Nat):=loopSum ⟨[(0,.one (.ro (.pair (.int .i64) Y6))),(1,.one (.fn 133 [])),(7,oI),(8,oI)],[],0,[]⟩ ⟨[0,1,7,8],[],[]⟩ k fun R rec K v=>f853v0l0s k rec (fun w=>K .ret (encSt ⟨[(4,oI)],[],0,[]⟩ w)) (fun w=>K (.exit 0) (encSt ⟨[],[],0,[]⟩ w)) v
theorem f853v0l0O (k:Nat):SumO P Tryz.f153 26 (f853v0l0S k):=lp tm (f853v0T k) ⟨[4],[],[]⟩ SumsOk.nil (by kernel_rfl) fun _ _ _ _=>by kernel_rfl
noncomputable def f853v0F (k:Nat)(x:D21):Option (Int×Unit) :=
 f853v0l0 k
 (fun (w2:Int×Unit) =>
 some (w2.1,()))
 (fun (w3:Unit) =>
 some ((-1),()))
 (x.1,(x.1.length:Int),0,())
theorem f853v0Ok (k:Nat):GnV P 153 f853v0I f853v0U (f853v0F k) :=
 gs tm (f853v0T k) Tryz.func153 (by kernel_rfl) (SumsOk.nil |>.s (f853v0l0O k) (by kernel_rfl)) [.dat .bool] [] none fun _=>by kernel_rfl
noncomputable def f835v0I:Shape:=⟨[(0,.one (.ro (.pair (.int .i64) Y6))),(1,.one (.fn 133 []))],[],0,[]⟩
noncomputable def f835v0U:Shape:=⟨[(0,oB)],[],0,[]⟩
noncomputable def f835v0T (k:Nat):TB P:=TB.nil |>.g (f853v0Ok k)
noncomputable def f835v0F (k:Nat)(x:D21):Option (Bool×Unit) :=
 Option.bind (f853v0F k (x.1,())) fun y1 =>
 some ((decide (y1.1≥0)),())
theorem f835v0Ok (k:Nat):GnV P 135 f835v0I f835v0U (f835v0F k) :=
 gs tm (f835v0T k) Tryz.func135 (by kernel_rfl) SumsOk.nil [.dat .bool] [] none fun _=>by kernel_rfl
noncomputable def f816T (k:Nat):TB P:=TB.nil |>.g (f835v0Ok k) |>.u (f761Ok k) |>.u (f760Ok k)
noncomputable def f816F (k:Nat)(x:D22):Option (Int) :=
 Option.bind (f761F k ((decide ((x.length:Int) > 9)),2)) fun y1 =>
 Option.bind (f835v0F k (x,())) fun y2 =>
 Option.bind (f761F k (y2.1,17)) fun y3 =>
 Option.bind (f760F k [y1,y3]) fun y4 =>
 some y4
theorem f816Ok (k:Nat):FnV P 116 [.dat (.slice (.pair (.int .i64) Y6))] [.dat (.int .i64)] (f816F k) :=
 fs tm (f816T k) Tryz.func116 (by kernel_rfl) SumsOk.nil none fun _=>by kernel_rfl
noncomputable def f822l0s {R:Type}(k:Nat)(rec:D23->Option R)(k0:Int×Unit->Option R)(k1:Unit->Option R)(v:D23):Option R :=
 bif (decide (v.2.2.2.1<v.2.2.1)) then
 bif ((decide (0<=v.2.2.2.1))&&(decide (v.2.2.2.1<(v.1.length:Int)))) then
 bif (strEq v.2.1 (v.1.getD (Int.toNat v.2.2.2.1) ByteArray.empty)) then
 k0 (v.2.2.2.1,())
 else
 rec (v.1,v.2.1,v.2.2.1,(IntKind.i64.wrap (v.2.2.2.1+1)),())
 else none
 else
 k1 (())
noncomputable def f822l0 {R:Type}(k:Nat)(k0:Int×Unit->Option R)(k1:Unit->Option R)(v:D23):Option R:=iterS (fun rec v=>f822l0s k rec k0 k1 v) k v
noncomputable def f822l0S (k:Nat):=loopSum ⟨[(0,.one (.ro .str)),(1,oS),(7,oI),(8,oI)],[],0,[]⟩ ⟨[0,1,7,8],[],[]⟩ k fun R rec K v=>f822l0s k rec (fun w=>K .ret (encSt ⟨[(4,oI)],[],0,[]⟩ w)) (fun w=>K (.exit 0) (encSt ⟨[],[],0,[]⟩ w)) v
theorem f822l0O (k:Nat):SumO P Tryz.f122 26 (f822l0S k):=lp tm TB.nil ⟨[4],[],[]⟩ SumsOk.nil (by kernel_rfl) fun _ _ _ _=>by kernel_rfl
noncomputable def f822F (k:Nat)(x:D24):Option (Int) :=
 f822l0 k
 (fun (w1:Int×Unit) =>
 some w1.1)
 (fun (w2:Unit) =>
 some (-1))
 (x.1,x.2,(x.1.length:Int),0,())
theorem f822Ok (k:Nat):FnV P 122 [.dat (.slice .str),.dat .str] [.dat (.int .i64)] (f822F k) :=
 fs tm TB.nil Tryz.func122 (by kernel_rfl) (SumsOk.nil |>.s (f822l0O k) (by kernel_rfl)) none fun _=>by kernel_rfl
noncomputable def f806T (k:Nat):TB P:=TB.nil |>.u (f822Ok k)
noncomputable def f806F (k:Nat)(x:D24):Option (Bool) :=
 Option.bind (f822F k (x.1,x.2)) fun y1 =>
 some (decide (y1≥0))
theorem f806Ok (k:Nat):FnV P 106 [.dat (.slice .str),.dat .str] [.dat .bool] (f806F k) :=
 fs tm (f806T k) Tryz.func106 (by kernel_rfl) SumsOk.nil none fun _=>by kernel_rfl
noncomputable def f817T (k:Nat):TB P:=TB.nil |>.u (f806Ok k) |>.u (f797Ok k) |>.u (f761Ok k) |>.u (f760Ok k)
noncomputable def f817l0s {R:Type}(k:Nat)(rec:D25->Option R)(k0:Int×Unit->Option R)(k1:Unit->Option R)(v:D25):Option R :=
 bif (decide (v.2.2.2.1<v.2.2.1)) then
 bif ((decide (0<=v.2.2.2.1))&&(decide (v.2.2.2.1<(v.2.1.length:Int)))) then
 let t1:=(strEq (v.2.1.getD (Int.toNat v.2.2.2.1) ByteArray.empty) ByteArray.empty)
 Option.bind (f761F k (t1,1)) fun y2 =>
 Option.bind (f797F k ((v.2.1.getD (Int.toNat v.2.2.2.1) ByteArray.empty),32)) fun y3 =>
 bif (sliceBds 0 v.2.2.2.1 (v.1.length:Int)) then
 Option.bind (f806F k (((v.1.take (Int.toNat v.2.2.2.1)).drop 0),(v.2.1.getD (Int.toNat v.2.2.2.1) ByteArray.empty))) fun y4 =>
 Option.bind (f761F k (y4,13)) fun y5 =>
 Option.bind (f760F k [y2,y3,y5]) fun y6 =>
 bif (y6 !=0) then
 k0 (y6,())
 else
 rec (v.1,v.2.1,v.2.2.1,(IntKind.i64.wrap (v.2.2.2.1+1)),())
 else none
 else none
 else
 k1 (())
noncomputable def f817l0 {R:Type}(k:Nat)(k0:Int×Unit->Option R)(k1:Unit->Option R)(v:D25):Option R:=iterS (fun rec v=>f817l0s k rec k0 k1 v) k v
noncomputable def f817l0S (k:Nat):=loopSum ⟨[(0,.one (.ro .str)),(9,.one (.ro .str)),(10,oI),(11,oI)],[],0,[]⟩ ⟨[0,9,10,11],[],[]⟩ k fun R rec K v=>f817l0s k rec (fun w=>K .ret (encSt ⟨[(2,oI)],[],0,[]⟩ w)) (fun w=>K (.exit 0) (encSt ⟨[],[],0,[]⟩ w)) v
theorem f817l0O (k:Nat):SumO P Tryz.f117 58 (f817l0S k):=lp tm (f817T k) ⟨[2],[],[]⟩ SumsOk.nil (by kernel_rfl) fun _ _ _ _=>by kernel_rfl
noncomputable def f817F (k:Nat)(x:(List ByteArray)):Option (Int) :=
 bif (decide ((x.length:Int) > 8)) then
 some 2
 else
 f817l0 k
 (fun (w7:Int×Unit) =>
 some w7.1)
 (fun (w8:Unit) =>
 some 0)
 (x,x,(x.length:Int),0,())
theorem f817Ok (k:Nat):FnV P 117 [.dat (.slice .str)] [.dat (.int .i64)] (f817F k) :=
 fs tm (f817T k) Tryz.func117 (by kernel_rfl) (SumsOk.nil |>.s (f817l0O k) (by kernel_rfl)) none fun _=>by kernel_rfl
noncomputable def f789T (k:Nat):TB P:=TB.nil |>.u (f817Ok k) |>.u (f816Ok k) |>.u (f815Ok k) |>.u (f797Ok k) |>.u (f762Ok k) |>.u (f761Ok k) |>.u (f760Ok k)
noncomputable def f789F (k:Nat)(x:D13):Option (Int) :=
 bif (decide ((x.2.2.1.size:Int) > 200)) then
 Option.bind (f762F k (x.2.1,0,99)) fun y1 =>
 Option.bind (f761F k ((!y1),3)) fun y2 =>
 Option.bind (f761F k ((strEq x.2.2.1 ByteArray.empty),1)) fun y3 =>
 Option.bind (f761F k (true,2)) fun y4 =>
 bif (decide (x.2.2.1.size+x.2.2.2.1.size<=9223372036854775807)) then
 Option.bind (f815F k (x.2.2.1++x.2.2.2.1)) fun y5 =>
 Option.bind (f761F k ((!y5),5)) fun y6 =>
 Option.bind (f816F k x.2.2.2.2.1) fun y7 =>
 Option.bind (f797F k (x.2.2.2.2.2.1,32)) fun y8 =>
 Option.bind (f817F k x.2.2.2.2.2.2) fun y9 =>
 Option.bind (f760F k [y2,y3,y4,y6,y7,y8,y9]) fun y10 =>
 some y10
 else none
 else
 Option.bind (f762F k (x.2.1,0,99)) fun y11 =>
 Option.bind (f761F k ((!y11),3)) fun y12 =>
 Option.bind (f761F k ((strEq x.2.2.1 ByteArray.empty),1)) fun y13 =>
 Option.bind (f761F k ((decide ((x.2.2.2.1.size:Int) > 200)),2)) fun y14 =>
 bif (decide (x.2.2.1.size+x.2.2.2.1.size<=9223372036854775807)) then
 Option.bind (f815F k (x.2.2.1++x.2.2.2.1)) fun y15 =>
 Option.bind (f761F k ((!y15),5)) fun y16 =>
 Option.bind (f816F k x.2.2.2.2.1) fun y17 =>
 Option.bind (f797F k (x.2.2.2.2.2.1,32)) fun y18 =>
 Option.bind (f817F k x.2.2.2.2.2.2) fun y19 =>
 Option.bind (f760F k [y12,y13,y14,y16,y17,y18,y19]) fun y20 =>
 some y20
 else none
theorem f789Ok (k:Nat):FnV P 89 [.agg Y10] [.dat (.int .i64)] (f789F k) :=
 fs tm (f789T k) Tryz.func89 (by kernel_rfl) SumsOk.nil none fun _=>by kernel_rfl
noncomputable def f746T (k:Nat):TB P:=TB.nil |>.u (f789Ok k) |>.u (f788Ok k) |>.u (f761Ok k) |>.u (f760Ok k)
noncomputable def f746p0 {R:Type}(k:Nat)(k0:D26->Option R)(k1:D27->Option R)(v:D27):Option R :=
 bif ((decide (0<=v.2.2.2.1))&&(decide (v.2.2.2.1<(v.2.1.length:Int)))) then
 let t1:=(v.2.1.getD (Int.toNat v.2.2.2.1) (ByteArray.empty,(0,(ByteArray.empty,(ByteArray.empty,([],(ByteArray.empty,[])))))))
 bif (decide (v.2.2.2.1 > 0)) then
 bif ((decide (0<=(mxI (IntKind.i64.wrap (v.2.2.2.1 - 1)) 0)))&&(decide ((mxI (IntKind.i64.wrap (v.2.2.2.1 - 1)) 0)<(v.1.length:Int)))) then
 let t2:=(v.1.getD (Int.toNat (mxI (IntKind.i64.wrap (v.2.2.2.1 - 1)) 0)) (ByteArray.empty,(0,(ByteArray.empty,(ByteArray.empty,([],(ByteArray.empty,[])))))))
 Option.bind (f788F k t1.1) fun y3 =>
 Option.bind (f761F k ((!y3),7)) fun y4 =>
 Option.bind (f761F k ((!strLt t2.1 t1.1),14)) fun y5 =>
 Option.bind (f789F k (t1.1,(t1.2.1,(t1.2.2.1,(t1.2.2.2.1,(t1.2.2.2.2.1,(t1.2.2.2.2.2.1,t1.2.2.2.2.2.2))))))) fun y6 =>
 Option.bind (f760F k [y4,y5,y6]) fun y7 =>
 bif (y7 !=0) then
 k0 (v.1,v.2.2.2.1,y7,v.2.1,v.2.2.1,v.2.2.2.1,())
 else
 k1 (v.1,v.2.1,v.2.2.1,v.2.2.2.1,())
 else none
 else
 Option.bind (f788F k t1.1) fun y8 =>
 Option.bind (f761F k ((!y8),7)) fun y9 =>
 Option.bind (f761F k (false,14)) fun y10 =>
 Option.bind (f789F k (t1.1,(t1.2.1,(t1.2.2.1,(t1.2.2.2.1,(t1.2.2.2.2.1,(t1.2.2.2.2.2.1,t1.2.2.2.2.2.2))))))) fun y11 =>
 Option.bind (f760F k [y9,y10,y11]) fun y12 =>
 bif (y12 !=0) then
 k0 (v.1,v.2.2.2.1,y12,v.2.1,v.2.2.1,v.2.2.2.1,())
 else
 k1 (v.1,v.2.1,v.2.2.1,v.2.2.2.1,())
 else none
noncomputable def f746p0S (k:Nat):=partSum ⟨[(0,.one (.ro Y10)),(11,.one (.ro Y10)),(12,oI),(13,oI)],[],0,[]⟩ ⟨[0,11,12,13],[],[]⟩ fun R K v=>f746p0 k (fun w=>K .ret (encSt ⟨[(0,.one (.ro Y10)),(2,oI),(3,oI),(11,.one (.ro Y10)),(12,oI),(13,oI)],[],0,[]⟩ w)) (fun w=>K .normal (encSt ⟨[(0,.one (.ro Y10)),(11,.one (.ro Y10)),(12,oI),(13,oI)],[],0,[]⟩ w)) v
theorem f746p0O (k:Nat):SumO P Tryz.f46 934 (f746p0S k):=pt tm (f746T k) ⟨[0,2,3,11,12,13],[],[]⟩ SumsOk.nil fun _ _ _=>by kernel_rfl
noncomputable def f746l1s {R:Type}(k:Nat)(rec:D27->Option R)(k0:Int×Int×Unit->Option R)(k1:Unit->Option R)(v:D27):Option R :=
 bif (decide (v.2.2.2.1<v.2.2.1)) then
 f746p0 k
 (fun (w13:D26) =>
 k0 (w13.2.1,w13.2.2.1,()))
 (fun (w14:D27) =>
 rec (w14.1,w14.2.1,w14.2.2.1,(IntKind.i64.wrap (w14.2.2.2.1+1)),()))
 (v.1,v.2.1,v.2.2.1,v.2.2.2.1,())
 else
 k1 (())
noncomputable def f746l1 {R:Type}(k:Nat)(k0:Int×Int×Unit->Option R)(k1:Unit->Option R)(v:D27):Option R:=iterS (fun rec v=>f746l1s k rec k0 k1 v) k v
noncomputable def f746l1S (k:Nat):=loopSum ⟨[(0,.one (.ro Y10)),(11,.one (.ro Y10)),(12,oI),(13,oI)],[],0,[]⟩ ⟨[0,11,12,13],[],[]⟩ k fun R rec K v=>f746l1s k rec (fun w=>K .ret (encSt ⟨[(2,oI),(3,oI)],[],0,[]⟩ w)) (fun w=>K (.exit 0) (encSt ⟨[],[],0,[]⟩ w)) v
theorem f746l1O (k:Nat):SumO P Tryz.f46 58 (f746l1S k):=lp tm (f746T k) ⟨[2,3],[],[]⟩ (SumsOk.nil |>.s (f746p0O k) (by kernel_rfl)) (by kernel_rfl) fun _ _ _ _=>by kernel_rfl
noncomputable def f746F (k:Nat)(x:(List D13)):Option (Int×Int) :=
 bif (decide ((x.length:Int) > 20)) then
 some (0,2)
 else
 f746l1 k
 (fun (w15:Int×Int×Unit) =>
 some (w15.1,w15.2.1))
 (fun (w16:Unit) =>
 some (0,0))
 (x,x,(x.length:Int),0,())
theorem f746Ok (k:Nat):FnV P 46 [.dat (.slice Y10)] [.dat (.int .i64),.dat (.int .i64)] (f746F k) :=
 fs tm (f746T k) Tryz.func46 (by kernel_rfl) (SumsOk.nil |>.s (f746l1O k) (by kernel_rfl) |>.s (f746p0O k) (by kernel_rfl)) none fun _=>by kernel_rfl
noncomputable def f782T (k:Nat):TB P:=TB.nil |>.u (f811Ok k) |>.u (f810Ok k)
noncomputable def f782p0 {R:Type}(k:Nat)(k0:D1->Option R)(k1:D0->Option R)(v:D1):Option R :=
 bif ((decide (0<=v.2.1))&&(decide (v.2.1<(v.2.2.1.length:Int)))) then
 Option.bind (f810F k (v.2.2.1.getD (Int.toNat v.2.1) 0)) fun y1 =>
 bif y1 then
 k0 (v.1,v.2.1,v.2.2.1,())
 else
 bif ((v.2.2.1.getD (Int.toNat v.2.1) 0)==35) then
 k0 (v.1,v.2.1,v.2.2.1,())
 else
 bif ((v.2.2.1.getD (Int.toNat v.2.1) 0)==36) then
 k0 (v.1,v.2.1,v.2.2.1,())
 else
 bif (!((v.2.2.1.getD (Int.toNat v.2.1) 0)==64)) then
 bif (v.2.1==0) then
 k1 (false,v.1,v.2.1,v.2.2.1,())
 else
 Option.bind (f811F k (v.2.2.1.getD (Int.toNat v.2.1) 0)) fun y2 =>
 bif (!y2) then
 bif ((v.2.2.1.getD (Int.toNat v.2.1) 0) !=95) then
 bif ((v.2.2.1.getD (Int.toNat v.2.1) 0) !=46) then
 k1 (false,v.1,v.2.1,v.2.2.1,())
 else
 k0 (v.1,v.2.1,v.2.2.1,())
 else
 k0 (v.1,v.2.1,v.2.2.1,())
 else
 k0 (v.1,v.2.1,v.2.2.1,())
 else
 k0 (v.1,v.2.1,v.2.2.1,())
 else none
noncomputable def f782p0S (k:Nat):=partSum ⟨[(14,.one (.own 0)),(15,oI),(16,oI)],[(0,.row 5 (.int .u8) .mark)],1,[]⟩ ⟨[14,15,16],[],[]⟩ fun R K v=>f782p0 k (fun w=>K .normal (encSt ⟨[(14,.one (.own 0)),(15,oI),(16,oI)],[(0,.row 5 (.int .u8) .mark)],1,[]⟩ w)) (fun w=>K .ret (encSt ⟨[(2,oB),(14,.one (.own 0)),(15,oI),(16,oI)],[(0,.row 5 (.int .u8) .mark)],1,[]⟩ w)) v
theorem f782p0O (k:Nat):SumO P Tryz.f82 934 (f782p0S k):=pt tm (f782T k) ⟨[2,14,15,16],[],[]⟩ SumsOk.nil fun _ _ _=>by kernel_rfl
noncomputable def f782l1s {R:Type}(k:Nat)(rec:D1->Option R)(k0:Bool×Unit->Option R)(k1:Unit->Option R)(v:D1):Option R :=
 bif (decide (v.2.1<v.1)) then
 f782p0 k
 (fun (w3:D1) =>
 rec (w3.1,(IntKind.i64.wrap (w3.2.1+1)),w3.2.2.1,()))
 (fun (w4:D0) =>
 k0 (w4.1,()))
 (v.1,v.2.1,v.2.2.1,())
 else
 k1 (())
noncomputable def f782l1 {R:Type}(k:Nat)(k0:Bool×Unit->Option R)(k1:Unit->Option R)(v:D1):Option R:=iterS (fun rec v=>f782l1s k rec k0 k1 v) k v
noncomputable def f782l1S (k:Nat):=loopSum ⟨[(14,.one (.own 0)),(15,oI),(16,oI)],[(0,.row 5 (.int .u8) .mark)],1,[]⟩ ⟨[14,15,16],[],[]⟩ k fun R rec K v=>f782l1s k rec (fun w=>K .ret (encSt ⟨[(2,oB)],[],0,[]⟩ w)) (fun w=>K (.exit 0) (encSt ⟨[],[],0,[]⟩ w)) v
theorem f782l1O (k:Nat):SumO P Tryz.f82 58 (f782l1S k):=lp tm (f782T k) ⟨[2],[],[]⟩ (SumsOk.nil |>.s (f782p0O k) (by kernel_rfl)) (by kernel_rfl) fun _ _ _ _=>by kernel_rfl
noncomputable def f782F (k:Nat)(x:ByteArray):Option (Bool) :=
 bif (strEq x ByteArray.empty) then
 some false
 else
 bif (decide ((x.size:Int) > 10)) then
 some false
 else
 bif (decide (x.size<=9223372036854775807)) then
 f782l1 k
 (fun (w5:Bool×Unit) =>
 some w5.1)
 (fun (w6:Unit) =>
 some true)
 (((bytesOf x).length:Int),0,(bytesOf x),())
 else none
theorem f782Ok (k:Nat):FnV P 82 [.dat .str] [.dat .bool] (f782F k) :=
 fs tm (f782T k) Tryz.func82 (by kernel_rfl) (SumsOk.nil |>.s (f782l1O k) (by kernel_rfl) |>.s (f782p0O k) (by kernel_rfl)) none fun _=>by kernel_rfl
noncomputable def f783T (k:Nat):TB P:=TB.nil |>.u (f812Ok k) |>.u (f762Ok k) |>.u (f761Ok k) |>.u (f760Ok k)
noncomputable def f783p0 {R:Type}(k:Nat)(k0:D28->Option R)(k1:D29->Option R)(v:D29):Option R :=
 Option.bind (f762F k (v.2.2.2.1,1,12)) fun y1 =>
 bif (!y1) then
 Option.bind (f761F k (true,3)) fun y2 =>
 Option.bind (f761F k ((decide ((v.2.2.2.2.2.2.1.length:Int) > v.2.2.2.1)),2)) fun y3 =>
 Option.bind (f760F k [y2,y3]) fun y4 =>
 bif (y4 !=0) then
 k0 (y4,v.1,v.2.1,v.2.2.1,v.2.2.2.1,v.2.2.2.2.1,v.2.2.2.2.2.1,v.2.2.2.2.2.2.1,())
 else
 k1 (v.1,v.2.1,v.2.2.1,v.2.2.2.1,v.2.2.2.2.1,v.2.2.2.2.2.1,v.2.2.2.2.2.2.1,())
 else
 Option.bind (f762F k (v.2.2.2.2.2.1,1,1000000)) fun y5 =>
 Option.bind (f761F k ((!y5),3)) fun y6 =>
 Option.bind (f761F k ((decide ((v.2.2.2.2.2.2.1.length:Int) > v.2.2.2.1)),2)) fun y7 =>
 Option.bind (f760F k [y6,y7]) fun y8 =>
 bif (y8 !=0) then
 k0 (y8,v.1,v.2.1,v.2.2.1,v.2.2.2.1,v.2.2.2.2.1,v.2.2.2.2.2.1,v.2.2.2.2.2.2.1,())
 else
 k1 (v.1,v.2.1,v.2.2.1,v.2.2.2.1,v.2.2.2.2.1,v.2.2.2.2.2.1,v.2.2.2.2.2.2.1,())
noncomputable def f783p0S (k:Nat):=partSum ⟨[(2,.one (.ptr 0 0)),(3,.one (.ptr 1 0))],[(0,.var 25 [.ro Y10,.ro (.pair .str Y5)]),(1,.var 69 [.str,.int .i64,.bool,.int .i64,.ro Y3])],2,[]⟩ ⟨[2,3],[],[]⟩ fun R K v=>f783p0 k (fun w=>K .ret (encSt ⟨[(2,.one (.ptr 0 0)),(3,.one (.ptr 1 0)),(4,oI)],[(0,.var 25 [.ro Y10,.ro (.pair .str Y5)]),(1,.var 69 [.str,.int .i64,.bool,.int .i64,.ro Y3])],2,[]⟩ w)) (fun w=>K .normal (encSt ⟨[(2,.one (.ptr 0 0)),(3,.one (.ptr 1 0))],[(0,.var 25 [.ro Y10,.ro (.pair .str Y5)]),(1,.var 69 [.str,.int .i64,.bool,.int .i64,.ro Y3])],2,[]⟩ w)) v
theorem f783p0O (k:Nat):SumO P Tryz.f83 6 (f783p0S k):=pt tm (f783T k) ⟨[2,3,4],[],[]⟩ SumsOk.nil fun _ _ _=>by kernel_rfl
noncomputable def f783l1s {R:Type}(k:Nat)(rec:D30->Option R)(k0:Int×Unit->Option R)(k1:Unit->Option R)(v:D30):Option R :=
 bif (decide (v.2.2.2.1<v.2.2.1)) then
 bif ((decide (0<=v.2.2.2.1))&&(decide (v.2.2.2.1<(v.2.1.length:Int)))) then
 let t11:=(v.2.1.getD (Int.toNat v.2.2.2.1) (0,(0,(ByteArray.empty,(ByteArray.empty,(ByteArray.empty,(false,(false,0))))))))
 Option.bind (f812F k ((v.2.2.2.2.1,v.2.2.2.2.2.1),(v.2.2.2.2.2.2.1,(v.2.2.2.2.2.2.2.1,(v.2.2.2.2.2.2.2.2.1,(v.2.2.2.2.2.2.2.2.2.1,v.2.2.2.2.2.2.2.2.2.2.1)))),(t11.1,(t11.2.1,(t11.2.2.1,(t11.2.2.2.1,(t11.2.2.2.2.1,(t11.2.2.2.2.2.1,(t11.2.2.2.2.2.2.1,t11.2.2.2.2.2.2.2))))))),v.1)) fun y12 =>
 bif (y12 !=0) then
 k0 (y12,())
 else
 rec (t11.1,v.2.1,v.2.2.1,(IntKind.i64.wrap (v.2.2.2.1+1)),v.2.2.2.2.1,v.2.2.2.2.2.1,v.2.2.2.2.2.2.1,v.2.2.2.2.2.2.2.1,v.2.2.2.2.2.2.2.2.1,v.2.2.2.2.2.2.2.2.2.1,v.2.2.2.2.2.2.2.2.2.2.1,())
 else none
 else
 k1 (())
noncomputable def f783l1 {R:Type}(k:Nat)(k0:Int×Unit->Option R)(k1:Unit->Option R)(v:D30):Option R:=iterS (fun rec v=>f783l1s k rec k0 k1 v) k v
noncomputable def f783l1S (k:Nat):=loopSum ⟨[(2,.one (.ptr 0 0)),(3,.one (.ptr 1 0)),(6,oI),(34,.one (.ro Y3)),(35,oI),(36,oI)],[(0,.var 25 [.ro Y10,.ro (.pair .str Y5)]),(1,.var 69 [.str,.int .i64,.bool,.int .i64,.ro Y3])],2,[]⟩ ⟨[2,3,6,34,35,36],[],[]⟩ k fun R rec K v=>f783l1s k rec (fun w=>K .ret (encSt ⟨[(4,oI)],[],0,[]⟩ w)) (fun w=>K (.exit 0) (encSt ⟨[],[],0,[]⟩ w)) v
theorem f783l1O (k:Nat):SumO P Tryz.f83 122 (f783l1S k):=lp tm (f783T k) ⟨[4],[],[]⟩ SumsOk.nil (by kernel_rfl) fun _ _ _ _=>by kernel_rfl
noncomputable def f783F (k:Nat)(x:D14×D6):Option (Int) :=
 f783p0 k
 (fun (w9:D28) =>
 some w9.1)
 (fun (w10:D29) =>
 f783l1 k
 (fun (w13:Int×Unit) =>
 some w13.1)
 (fun (w14:Unit) =>
 some 0)
 (0,w10.2.2.2.2.2.2.1,(w10.2.2.2.2.2.2.1.length:Int),0,w10.1,w10.2.1,w10.2.2.1,w10.2.2.2.1,w10.2.2.2.2.1,w10.2.2.2.2.2.1,w10.2.2.2.2.2.2.1,()))
 (x.1.1,x.1.2,x.2.1,x.2.2.1,x.2.2.2.1,x.2.2.2.2.1,x.2.2.2.2.2,())
theorem f783Ok (k:Nat):FnV P 83 [.agg Y11,.agg (.pair .str Y5)] [.dat (.int .i64)] (f783F k) :=
 fs tm (f783T k) Tryz.func83 (by kernel_rfl) (SumsOk.nil |>.s (f783l1O k) (by kernel_rfl) |>.s (f783p0O k) (by kernel_rfl)) none fun _=>by kernel_rfl
noncomputable def f739T (k:Nat):TB P:=TB.nil |>.u (f783Ok k) |>.u (f782Ok k) |>.u (f761Ok k) |>.u (f760Ok k) |>.u (f746Ok k)
noncomputable def f739p0 {R:Type}(k:Nat)(k0:D31->Option R)(k1:D32->Option R)(v:D32):Option R :=
 bif ((decide (0<=v.2.2.1))&&(decide (v.2.2.1<(v.1.length:Int)))) then
 let t2:=(v.1.getD (Int.toNat v.2.2.1) (ByteArray.empty,(0,(false,(0,[])))))
 bif (decide (v.2.2.1 > 0)) then
 bif ((decide (0<=(mxI (IntKind.i64.wrap (v.2.2.1 - 1)) 0)))&&(decide ((mxI (IntKind.i64.wrap (v.2.2.1 - 1)) 0)<(v.2.2.2.2.1.length:Int)))) then
 let t3:=(v.2.2.2.2.1.getD (Int.toNat (mxI (IntKind.i64.wrap (v.2.2.1 - 1)) 0)) (ByteArray.empty,(0,(false,(0,[])))))
 Option.bind (f782F k t2.1) fun y4 =>
 Option.bind (f761F k ((!y4),7)) fun y5 =>
 Option.bind (f761F k ((!strLt t3.1 t2.1),14)) fun y6 =>
 Option.bind (f783F k ((v.2.2.2.1,v.2.2.2.2.1),(t2.1,(t2.2.1,(t2.2.2.1,(t2.2.2.2.1,t2.2.2.2.2)))))) fun y7 =>
 Option.bind (f760F k [y5,y6,y7]) fun y8 =>
 bif (y8 !=0) then
 k0 (v.2.2.1,y8,v.1,v.2.1,v.2.2.1,v.2.2.2.1,v.2.2.2.2.1,())
 else
 k1 (v.1,v.2.1,v.2.2.1,v.2.2.2.1,v.2.2.2.2.1,())
 else none
 else
 Option.bind (f782F k t2.1) fun y9 =>
 Option.bind (f761F k ((!y9),7)) fun y10 =>
 Option.bind (f761F k (false,14)) fun y11 =>
 Option.bind (f783F k ((v.2.2.2.1,v.2.2.2.2.1),(t2.1,(t2.2.1,(t2.2.2.1,(t2.2.2.2.1,t2.2.2.2.2)))))) fun y12 =>
 Option.bind (f760F k [y10,y11,y12]) fun y13 =>
 bif (y13 !=0) then
 k0 (v.2.2.1,y13,v.1,v.2.1,v.2.2.1,v.2.2.2.1,v.2.2.2.2.1,())
 else
 k1 (v.1,v.2.1,v.2.2.1,v.2.2.2.1,v.2.2.2.2.1,())
 else none
noncomputable def f739p0S (k:Nat):=partSum ⟨[(1,.one (.ptr 0 0)),(25,.one (.ro (.pair .str Y5))),(26,oI),(27,oI)],[(0,.var 25 [.ro Y10,.ro (.pair .str Y5)])],1,[]⟩ ⟨[1,25,26,27],[],[]⟩ fun R K v=>f739p0 k (fun w=>K .ret (encSt ⟨[(1,.one (.ptr 0 0)),(2,oI),(3,oI),(25,.one (.ro (.pair .str Y5))),(26,oI),(27,oI)],[(0,.var 25 [.ro Y10,.ro (.pair .str Y5)])],1,[]⟩ w)) (fun w=>K .normal (encSt ⟨[(1,.one (.ptr 0 0)),(25,.one (.ro (.pair .str Y5))),(26,oI),(27,oI)],[(0,.var 25 [.ro Y10,.ro (.pair .str Y5)])],1,[]⟩ w)) v
theorem f739p0O (k:Nat):SumO P Tryz.f39 1958 (f739p0S k):=pt tm (f739T k) ⟨[1,2,3,25,26,27],[],[]⟩ SumsOk.nil fun _ _ _=>by kernel_rfl
noncomputable def f739l1s {R:Type}(k:Nat)(rec:D32->Option R)(k0:Int×Int×Unit->Option R)(k1:Unit->Option R)(v:D32):Option R :=
 bif (decide (v.2.2.1<v.2.1)) then
 f739p0 k
 (fun (w14:D31) =>
 k0 (w14.1,w14.2.1,()))
 (fun (w15:D32) =>
 rec (w15.1,w15.2.1,(IntKind.i64.wrap (w15.2.2.1+1)),w15.2.2.2.1,w15.2.2.2.2.1,()))
 (v.1,v.2.1,v.2.2.1,v.2.2.2.1,v.2.2.2.2.1,())
 else
 k1 (())
noncomputable def f739l1 {R:Type}(k:Nat)(k0:Int×Int×Unit->Option R)(k1:Unit->Option R)(v:D32):Option R:=iterS (fun rec v=>f739l1s k rec k0 k1 v) k v
noncomputable def f739l1S (k:Nat):=loopSum ⟨[(1,.one (.ptr 0 0)),(25,.one (.ro (.pair .str Y5))),(26,oI),(27,oI)],[(0,.var 25 [.ro Y10,.ro (.pair .str Y5)])],1,[]⟩ ⟨[1,25,26,27],[],[]⟩ k fun R rec K v=>f739l1s k rec (fun w=>K .ret (encSt ⟨[(2,oI),(3,oI)],[],0,[]⟩ w)) (fun w=>K (.exit 0) (encSt ⟨[],[],0,[]⟩ w)) v
theorem f739l1O (k:Nat):SumO P Tryz.f39 122 (f739l1S k):=lp tm (f739T k) ⟨[2,3],[],[]⟩ (SumsOk.nil |>.s (f739p0O k) (by kernel_rfl)) (by kernel_rfl) fun _ _ _ _=>by kernel_rfl
noncomputable def f739F (k:Nat)(x:D14):Option (Int×Int) :=
 Option.bind (f746F k x.1) fun y1 =>
 bif (y1.2 !=0) then
 some (y1.1,y1.2)
 else
 bif (decide ((x.2.length:Int) > 6)) then
 some (0,2)
 else
 f739l1 k
 (fun (w16:Int×Int×Unit) =>
 some (w16.1,w16.2.1))
 (fun (w17:Unit) =>
 some (0,0))
 (x.2,(x.2.length:Int),0,x.1,x.2,())
theorem f739Ok (k:Nat):FnV P 39 [.agg Y11] [.dat (.int .i64),.dat (.int .i64)] (f739F k) :=
 fs tm (f739T k) Tryz.func39 (by kernel_rfl) (SumsOk.nil |>.s (f739l1O k) (by kernel_rfl) |>.s (f739p0O k) (by kernel_rfl)) none fun _=>by kernel_rfl
end Go.Proofs.YthcmomgkfjjajaaGreatDoor
