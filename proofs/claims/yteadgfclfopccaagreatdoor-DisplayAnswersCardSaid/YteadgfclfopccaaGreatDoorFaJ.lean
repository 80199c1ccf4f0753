import Derived.Test.YteadgfclfopccaaGreatDoorAC
import Derived.Test.YteadgfclfopccaaGreatDoorProg
import Derived.Test.YteadgfclfopccaaGreatDoorSK
set_option linter.unusedVariables false
set_option maxRecDepth 100000
namespace Go.Proofs.YteadgfclfopccaaGreatDoor
open Go.Ab
@[reducible] noncomputable def P:Program:=Tryz.prog
@[reducible] def Y0:Ty:=(.pair (.int .i64) (.int .i64))
@[reducible] def Y1:Ty:=(.pair (.int .i64) .bool)
@[reducible] def Y2:Ty:=(.pair (.int .i64) (.slice Y1))
@[reducible] def Y3:Ty:=(.pair (.int .i64) (.pair .str Y2))
@[reducible] def Y4:Ty:=(.pair (.pair (.int .i64) Y0) Y3)
@[reducible] def Y5:Ty:=(.pair (.int .i64) (.pair (.int .i64) Y4))
@[reducible] def Y6:Ty:=(.pair (.slice (.pair .str Y5)) (.slice (.pair (.int .i64) Y1)))
@[reducible] def Y7:Ty:=(.pair (.int .i64) .str)
@[reducible] def Y8:Ty:=(.pair .bool (.pair .bool .bool))
@[reducible] def Y9:Ty:=(.pair (.int .i64) (.pair (.int .i64) Y8))
@[reducible] def Y10:Ty:=(.pair (.slice (.pair (.int .i64) Y9)) (.int .i64))
@[reducible] def Y11:Ty:=(.pair (.int .u64) (.int .u64))
@[reducible] def Y12:Ty:=(.pair (.int .u64) (.pair (.int .u64) Y11))
@[reducible] def Y13:Ty:=(.pair .bool (.pair Y12 Y12))
@[reducible] def Y14:Ty:=(.pair (.slice (.int .i64)) (.int .i64))
@[reducible] def Y15:Ty:=(.pair (.slice Y7) (.slice Y7))
@[reducible] def Y16:Ty:=(.pair .bool (.slice (.int .i64)))
@[reducible] def Y17:Ty:=(.pair Y16 (.slice (.int .i64)))
@[reducible] def Y18:Ty:=(.pair .str (.int .i64))
@[reducible] def Y19:Ty:=(.pair (.slice (.int .i64)) Y0)
@[reducible] def Y20:Ty:=(.pair (.slice .bool) Y19)
@[reducible] def Y21:Ty:=(.pair (.slice (.slice Y7)) Y20)
@[reducible] def Y22:Ty:=(.pair (.slice Y7) (.pair .str Y10))
@[reducible] def Y23:Ty:=(.pair (.slice (.int .i64)) .str)
abbrev D0:=Int×Int×List Int×Unit
abbrev D1:=Bool×Int×Int×List Int×Unit
abbrev D2:=List Int×Int×Int×Unit
abbrev D3:=List ByteArray×ByteArray×Int×Int×Unit
abbrev D4:=(List ByteArray)×ByteArray
abbrev D5:=Bool×Int×Bool×Int×Int×Int×Unit
abbrev D6:=Bool×Int×Int×Int×Int×Unit
abbrev D7:=Bool×Int×Int×Int×Unit
abbrev D8:=(Int×(List (Int×Bool)))
abbrev D9:=(Int×(ByteArray×D8))
abbrev D10:=((Int×(Int×Int))×D9)
abbrev D11:=(ByteArray×(Int×(Int×D10)))
abbrev D13:=List (List (Int×Bool))×Int×Unit
abbrev D14:=List (Int×Bool)×Unit
abbrev D15:=List (List (Int×Bool))×Int×List (List (Int×Bool))×Int×Int×Unit
abbrev D16:=List (List (Int×Bool))×Int×Int×List (Int×Bool)×Unit
abbrev D17:=(List (List (Int×Bool)))
abbrev D18:=List (Int×Bool)×Int×Int×Int×Bool×Unit
abbrev D19:=(List (Int×Bool))×(Int×Bool)
abbrev D20:=Bool×List (Int×Bool)×Unit
abbrev D21:=Int×Bool×List (Int×Bool)×Unit
abbrev D22:=Int×List (Int×Bool)×Unit
abbrev D23:=Int×Int×List (Int×Bool)×Unit
abbrev D24:=List (Int×Bool)×Int×Int×Unit
abbrev D25:=Bool×Int×Int×Bool×Unit
abbrev D26:=Int×Int×Bool×Int×Int×Bool×Unit
abbrev D27:=Int×Int×Int×Bool×Unit
abbrev D28:=List (Int×(Int×Bool))×Int×Int×Int×Int×Bool×Unit
abbrev D29:=List (Int×(Int×Bool))×Int×Int×Bool×Unit
abbrev D30:=(Int×(Int×Bool))×(List (Int×(Int×Bool)))
abbrev D31:=Bool×ByteArray×Int×Int×Int×Int×Int×Int×ByteArray×Int×List (Int×Bool)×Unit
abbrev D32:=ByteArray×Int×Int×Int×Int×Int×Int×ByteArray×Int×List (Int×Bool)×ByteArray×Int×Int×Int×Int×Int×Int×ByteArray×Int×List (Int×Bool)×Unit
abbrev D33:=Int×ByteArray×Int×Int×Int×Int×Int×Int×ByteArray×Int×List (Int×Bool)×Unit
abbrev D34:=ByteArray×Int×Int×Int×Int×Int×Int×ByteArray×Int×List (Int×Bool)×Unit
abbrev D35:=List D11×Int×Int×ByteArray×Int×Int×Int×Int×Int×Int×ByteArray×Int×List (Int×Bool)×Unit
abbrev D36:=List D11×ByteArray×Int×Int×Int×Int×Int×Int×ByteArray×Int×List (Int×Bool)×Unit
abbrev D39:=List D11×Int×Int×ByteArray×List D11×List (Int×(Int×Bool))×List ByteArray×Unit
abbrev D40:=Int×Int×List D11×Int×Int×ByteArray×List D11×List (Int×(Int×Bool))×List ByteArray×ByteArray×Int×Int×Int×Int×Int×Int×ByteArray×Int×List (Int×Bool)×Unit
abbrev D41:=Int×Int×List D11×Int×Int×ByteArray×List D11×List (Int×(Int×Bool))×List ByteArray×Unit
abbrev D42:=Int×Int×ByteArray×List D11×List (Int×(Int×Bool))×Unit
abbrev D43:=ByteArray×List D11×List (Int×(Int×Bool))×Unit
abbrev D44:=List (Int×(Int×Bool))×Int×Int×ByteArray×List D11×List (Int×(Int×Bool))×Unit
abbrev D45:=((List D11)×(List (Int×(Int×Bool))))
abbrev D46:=(Int×(Int×Int))×(Int×ByteArray)
abbrev D47:=List (Int×ByteArray)×List D11×Int×Int×List (Int×(Int×Int))×Unit
abbrev D48:=List (Int×ByteArray)×List (Int×(Int×Int))×Unit
abbrev D49:=List (Int×ByteArray)×Int×Int×List (Int×(Int×Int))×Unit
abbrev D50:=(ByteArray×D45)×(List (Int×ByteArray))
abbrev D51:=List Int×Bool×Int×Unit
abbrev D52:=List Int×Int×Int×Int×Unit
abbrev D53:=Int×Bool×List Int×Unit
abbrev D54:=List (Int×Bool)×Int×Int×List Int×Unit
abbrev D55:=List (Int×Bool)×List Int×Unit
abbrev D56:=ByteArray×Int×Int×Unit
abbrev D57:=Int×ByteArray×Int×Int×List Int×ByteArray×Int×Int×Int×Int×Int×Int×ByteArray×Int×List (Int×Bool)×Unit
abbrev D58:=Int×ByteArray×Int×Int×List Int×ByteArray×Int×Int×Int×Int×Int×Int×ByteArray×Int×List (Int×Bool)×List Int×Unit
abbrev D59:=Int×ByteArray×Int×Int×List Int×ByteArray×Int×Int×Int×Int×Int×Int×ByteArray×Int×List (Int×Bool)×Int×ByteArray×Unit
abbrev D60:=Int×List Int×List Int×Unit
abbrev D61:=ByteArray×Int×Int×Int×Int×Int×Int×ByteArray×Int×List (Int×Bool)×Int×ByteArray×Int×Int×List Int×Unit
abbrev D62:=Int×ByteArray×Int×Int×List Int×List Int×ByteArray×Int×Int×Int×Int×Int×Int×ByteArray×Int×List (Int×Bool)×Unit
abbrev D63:=Int×ByteArray×Int×Int×List Int×List Int×ByteArray×Int×Int×Int×Int×Int×Int×ByteArray×Int×List (Int×Bool)×Int×ByteArray×Unit
abbrev D64:=ByteArray×Int×Int×Int×Int×Int×Int×ByteArray×Int×List (Int×Bool)×Int×ByteArray×Int×Int×List Int×List Int×Unit
abbrev D65:=List (Int×ByteArray)×List Int×Int×Int×List D11×Int×Int×Int×List Int×List Int×Unit
abbrev D66:=List (Int×ByteArray)×List Int×Int×Int×List D11×Int×Int×Int×List Int×Unit
abbrev D67:=ByteArray×List D11×List (Int×(Int×Bool))×List (Int×ByteArray)×List Int×Int×Int×List Int×Unit
abbrev D68:=ByteArray×Int×Int×List Int×Unit
abbrev D69:=(ByteArray×D45)×(List (Int×ByteArray))×(List Int)
abbrev D70:=(Int×(Bool×(Bool×Bool)))
abbrev D71:=Int×Int×List (Int×(Int×D70))×Int×Int×ByteArray×List (Int×(Int×D70))×Int×Unit
abbrev D72:=List (Int×(Int×D70))×Int×Int×ByteArray×List (Int×(Int×D70))×Int×Unit
abbrev D73:=Int×Int×ByteArray×List (Int×(Int×D70))×Int×Unit
abbrev D74:=ByteArray×List (Int×(Int×D70))×Int×Unit
abbrev D75:=((List (Int×(Int×D70)))×Int)
abbrev D76:=(Int×(Int×D70))×(Int×(Int×D70))
abbrev D77:=Int×Int×Int×Bool×Bool×Bool×Int×Int×Unit
abbrev D78:=Int×List (Int×(Int×D70))×Int×Int×Unit
abbrev D79:=List (Int×(Int×D70))×Int×Int×Unit
abbrev D80:=Int×Int×List (Int×(Int×D70))×Int×Int×Unit
abbrev D81:=Int×Int×List (Int×(Int×D70))×Unit
abbrev D82:=Int×Int×List (Int×(Int×D70))×Int×Int×Int×Bool×Bool×Bool×Unit
abbrev D83:=Int×Int×Int×List (Int×(Int×D70))×Int×Int×Int×Bool×Bool×Bool×Unit
abbrev D84:=Int×Bool×List (Int×(Int×D70))×Unit
abbrev D85:=Int×Int×Int×Bool×Bool×Bool×List (Int×(Int×D70))×Unit
abbrev D86:=ByteArray×Int×ByteArray×Int×Int×List (Int×(Int×D70))×Unit
abbrev D87:=Int×Int×Int×Bool×Bool×Bool×ByteArray×ByteArray×List (Int×(Int×D70))×Int×ByteArray×Int×Int×Unit
abbrev D88:=Int×Int×ByteArray×List (Int×(Int×D70))×Int×ByteArray×Int×Int×Unit
abbrev D89:=ByteArray×List (Int×(Int×D70))×Int×ByteArray×Int×Int×Unit
abbrev D90:=Bool×ByteArray×List (Int×(Int×D70))×Int×ByteArray×Int×Int×Unit
abbrev D91:=Int×ByteArray×List (Int×(Int×D70))×Int×ByteArray×Int×Int×Unit
abbrev D92:=ByteArray×Int×Int×ByteArray×Int×ByteArray×List (Int×(Int×D70))×Int×ByteArray×Int×Int×Unit
abbrev D93:=ByteArray×ByteArray×Int×ByteArray×List (Int×(Int×D70))×Int×ByteArray×Int×Int×Unit
abbrev D94:=(ByteArray×D75)×ByteArray
abbrev D95:=(ByteArray×D75)×Int×Int
abbrev D96:=Int×Int×ByteArray×Int×List (Int×(Int×D70))×List Int×List Int×Unit
abbrev D97:=ByteArray×Int×List (Int×(Int×D70))×List Int×List Int×Unit
abbrev D98:=ByteArray×Int×List (Int×(Int×D70))×List Int×Unit
abbrev D99:=Int×Int×Int×ByteArray×Int×List (Int×(Int×D70))×List Int×List Int×Unit
abbrev D100:=Int×ByteArray×Int×List (Int×(Int×D70))×List Int×Unit
abbrev D101:=Bool×ByteArray×Int×List (Int×(Int×D70))×List Int×Unit
abbrev D102:=Int×List Int×ByteArray×Int×List (Int×(Int×D70))×List Int×Unit
abbrev D103:=List Int×ByteArray×Int×List (Int×(Int×D70))×List Int×Unit
abbrev D104:=Int×Int×List Int×ByteArray×Int×List (Int×(Int×D70))×List Int×Unit
abbrev D105:=Int×ByteArray×Int×List (Int×(Int×D70))×List Int×List Int×Unit
abbrev D106:=Int×Int×Int×ByteArray×Int×List (Int×(Int×D70))×List Int×Unit
abbrev D107:=Int×Int×ByteArray×Int×List (Int×(Int×D70))×List Int×Unit
abbrev D108:=ByteArray×Int×Int×ByteArray×Int×ByteArray×Int×List (Int×(Int×D70))×List Int×Unit
abbrev D109:=ByteArray×ByteArray×Int×ByteArray×Int×List (Int×(Int×D70))×List Int×Unit
abbrev D110:=Int×Bool×ByteArray×Int×ByteArray×List (Int×(Int×D70))×Int×Unit
abbrev D111:=Int×Bool×ByteArray×List (Int×(Int×D70))×Int×Unit
abbrev D112:=Bool×List (Int×(Int×D70))×Int×Int×ByteArray×List (Int×(Int×D70))×Int×List Int×Unit
abbrev D113:=(ByteArray×D75)×Int×Bool
abbrev D114:=Int×Int×Int×List D11×Int×Int×ByteArray×Int×Int×Int×Int×Int×Int×ByteArray×Int×List (Int×Bool)×ByteArray×Int×Int×Int×Int×Int×Int×ByteArray×Int×List (Int×Bool)×Unit
abbrev D115:=Int×Int×List D11×Int×Int×ByteArray×Int×Int×Int×Int×Int×Int×ByteArray×Int×ByteArray×Int×Int×Int×Int×Int×Int×ByteArray×Int×List (Int×Bool)×Unit
abbrev D116:=Int×Int×Int×List D11×Int×Int×ByteArray×Int×Int×Int×Int×Int×Int×ByteArray×Int×List (Int×Bool)×Unit
abbrev D117:=Int×Int×List D11×Int×Int×ByteArray×Int×Int×Int×Int×Int×Int×ByteArray×Int×Unit
abbrev D118:=ByteArray×Int×Int×Int×Int×Int×Int×ByteArray×Int×Unit
abbrev D120:=ByteArray×Int×Int×Int×Unit
abbrev D121:=Int×Int×Int×Int×Unit
abbrev D122:=ByteArray×Int×Int×Int×Int×Unit
abbrev D123:=ByteArray×ByteArray×Bool
abbrev D124:=ByteArray×Int×ByteArray×Int×Int×Int×Unit
abbrev D125:=ByteArray×Int×ByteArray×Int×Int×Int×Int×Int×List Int×Unit
abbrev D126:=(Int×(Int×(Int×Int)))
abbrev D127:=Int×Int×Int×Int×Int×Int×Int×Int×Unit
abbrev D128:=Int×Int×Int×Int×Int×Int×Int×Int×Int×Int×Unit
abbrev D129:=Int×Int×Int×Int×Int×Int×Int×Int×Int×Int×Int×Int×Int×Int×Int×Int×Int×Unit
abbrev D130:=Bool×Int×Int×Int×Int×Int×Int×Int×Int×Int×Int×Int×Int×ByteArray×Int×Int×Int×Int×Unit
abbrev D131:=Int×Int×ByteArray×Unit
abbrev D132:=Bool×Bool×Int×Int×Int×Int×Int×Int×Int×Int×Int×Int×Int×Int×ByteArray×Int×Int×Int×Int×Int×Int×Int×Int×Unit
abbrev D133:=Int×Bool×Int×Int×Int×Int×Int×Int×Int×Int×Int×ByteArray×Unit
abbrev D134:=(Bool×(D126×D126))×(Int×(Int×Int))×Bool
abbrev D135:=(Int×Int)×(Int×(Int×Int))×Bool
abbrev D136:=Int×ByteArray×Int×Int×Int×Int×Int×Int×ByteArray×Int×List (Int×Bool)×Int×ByteArray×Int×Int×Unit
abbrev D137:=Int×Int×Bool×ByteArray×Unit
abbrev D138:=List (Int×(Int×Bool))×Int×Int×ByteArray×Unit
abbrev D139:=List (Int×(Int×Bool))×ByteArray×Unit
abbrev D140:=Int×Int×Int×ByteArray×List D11×List (Int×(Int×Bool))×ByteArray×Int×Unit
abbrev D141:=Int×ByteArray×List D11×List (Int×(Int×Bool))×ByteArray×Int×Unit
abbrev D142:=ByteArray×Int×List Int×Unit
abbrev D143:=Int×Int×ByteArray×Int×List Int×Unit
abbrev D144:=ByteArray×List D11×List (Int×(Int×Bool))×ByteArray×Unit
abbrev D145:=Int×ByteArray×ByteArray×Int×Unit
abbrev D146:=Int×ByteArray×Int×ByteArray×Int×Unit
abbrev D147:=Int×Int×ByteArray×Int×Int×Int×Int×Int×Int×ByteArray×Int×List (Int×Bool)×ByteArray×List D11×List (Int×(Int×Bool))×Unit
abbrev D148:=Int×ByteArray×List D11×List (Int×(Int×Bool))×Unit
abbrev D149:=List (Int×ByteArray)×Unit
abbrev D150:=Int×Int×Int×ByteArray×List (Int×ByteArray)×Unit
abbrev D151:=ByteArray×ByteArray×Int×Unit
abbrev D152:=Int×Int×ByteArray×Int×ByteArray×List D11×List (Int×(Int×Bool))×List (Int×ByteArray)×Unit
abbrev D153:=ByteArray×Int×ByteArray×List D11×List (Int×(Int×Bool))×List (Int×ByteArray)×Unit
abbrev D154:=(ByteArray×D45)×(List (Int×ByteArray))×ByteArray
abbrev D155:=List (Int×ByteArray)×List Int×Int×Int
abbrev D156:=List (Int×ByteArray)×List (Int×ByteArray)×Int×Unit
abbrev D157:=(List (Int×ByteArray))×(List (Int×ByteArray))
abbrev D176:=Int×Int×Int×List Int×Unit
abbrev D184:=Int×Int×Int×ByteArray×List (Int×(Int×D70))×Int×Int×Int×Int×Bool×Bool×Bool×Unit
abbrev D185:=Int×ByteArray×List (Int×(Int×D70))×Int×Int×Int×Int×Bool×Bool×Bool×Unit
abbrev D186:=Int×Int×Int×ByteArray×List (Int×(Int×D70))×Int×Unit
abbrev D187:=Int×ByteArray×List (Int×(Int×D70))×Int×Unit
abbrev D188:=ByteArray×Int×ByteArray
abbrev D199:=Int×ByteArray×List (Int×(Int×D70))×Int×ByteArray×Int×Unit
abbrev D202:=ByteArray×Int×Int×ByteArray×List (Int×(Int×D70))×Int×ByteArray×Int×Unit
abbrev D203:=Int×ByteArray×List (Int×(Int×D70))×Int×ByteArray×List (Int×(Int×D70))×Int×Unit
abbrev D204:=(ByteArray×D75)×(ByteArray×D75)
abbrev D205:=Int×Int×ByteArray×List (Int×(Int×D70))×Int×Int×Int×Int×Bool×Bool×Bool×Unit
abbrev D206:=Int×Int×ByteArray×List (Int×(Int×D70))×Int×ByteArray×List (Int×(Int×D70))×Int×Unit
abbrev D207:=ByteArray×Int×List (Int×(Int×D70))×Unit
abbrev D208:=Int×Int×Int×Int×ByteArray×Int×ByteArray×Int×List (Int×(Int×D70))×Unit
abbrev D209:=Int×Int×Int×ByteArray×Int×ByteArray×Int×List (Int×(Int×D70))×Unit
abbrev D210:=Int×Int×Int×Int×Int×ByteArray×Int×ByteArray×Int×List (Int×(Int×D70))×Unit
abbrev D211:=ByteArray×Int×ByteArray×Int×List (Int×(Int×D70))×Unit
abbrev D212:=Int×ByteArray×Int×ByteArray×Int×List (Int×(Int×D70))×Unit
abbrev D213:=ByteArray×ByteArray×List (Int×(Int×D70))×Int×ByteArray×Int×Unit
abbrev D214:=ByteArray×Int×ByteArray×List (Int×(Int×D70))×Int×ByteArray×Int×Unit
abbrev D215:=Bool×ByteArray×Int×ByteArray×ByteArray×List (Int×(Int×D70))×Int×Int×Int×Int×Bool×Bool×Bool×Unit
abbrev D216:=Bool×ByteArray×Int×ByteArray×List (Int×(Int×D70))×Int×Int×Int×Int×Bool×Bool×Bool×Unit
abbrev D217:=Bool×ByteArray×Int×ByteArray×List (Int×(Int×D70))×Int×Unit
def tab:Tab:=[
 (3,⟨[],.int .i64,1,8,false,some [.int .i64 0],false⟩),
 (4,⟨[],.bool,1,1,false,some [.bool false],false⟩),
 (5,⟨[],.int .u8,1,1,false,some [.int .u8 0],false⟩),
 (9,⟨[],.str,1,16,false,some [.str ByteArray.empty],false⟩),
 (22,⟨[],.slice 124 (.pair .str Y5),1,24,false,some [.emp],false⟩),
 (23,⟨[],.slice 169 (.pair (.int .i64) Y1),1,24,false,some [.emp],false⟩),
 (25,⟨[],.struct [(9,0,1),(22,1,1),(23,2,1)],3,64,true,some [.str ByteArray.empty,.emp,.emp],false⟩),
 (26,⟨[],.slice 69 (.slice Y7),1,24,false,some [.emp],false⟩),
 (33,⟨[],.int .i64,1,8,false,some [.int .i64 0],false⟩),
 (51,⟨[],.slice 3 (.int .i64),1,24,false,some [.emp],false⟩),
 (62,⟨[(0,69,(.slice Y7)),(2,3,(.int .i64))],.struct [(26,0,1),(27,1,1),(51,2,1),(3,3,1),(3,4,1)],5,88,true,some [.emp,.emp,.emp,.int .i64 0,.int .i64 0],false⟩),
 (69,⟨[],.slice 119 Y7,1,24,false,some [.emp],false⟩),
 (75,⟨[(99,0,.bool)],.slice 182 (.pair (.int .i64) Y9),1,24,false,some [.emp],false⟩),
 (77,⟨[],.struct [(9,0,1),(75,1,1),(3,2,1)],3,48,true,some [.str ByteArray.empty,.emp,.int .i64 0],false⟩),
 (95,⟨[],.struct [(51,0,1),(9,1,1)],2,40,true,some [.emp,.str ByteArray.empty],false⟩),
 (102,⟨[],.struct [(69,0,1),(69,1,1),(77,2,3)],5,96,true,some [.emp,.emp,.str ByteArray.empty,.emp,.int .i64 0],false⟩),
 (105,⟨[],.struct [(69,0,1),(69,1,1)],2,48,true,some [.emp,.emp],false⟩),
 (109,⟨[],.slice 9 .str,1,24,false,some [.emp],false⟩),
 (119,⟨[],.struct [(3,0,1),(9,1,1)],2,24,true,some [.int .i64 0,.str ByteArray.empty],true⟩),
 (121,⟨[],.struct [(3,0,1),(3,1,1),(3,2,1)],3,24,true,some [.int .i64 0,.int .i64 0,.int .i64 0],true⟩),
 (122,⟨[(99,0,.bool)],.slice 233 Y1,1,24,false,some [.emp],false⟩),
 (124,⟨[],.struct [(9,0,1),(3,1,1),(3,2,1),(121,3,3),(3,6,1),(9,7,1),(3,8,1),(122,9,1)],10,112,true,some [.str ByteArray.empty,.int .i64 0,.int .i64 0,.int .i64 0,.int .i64 0,.int .i64 0,.int .i64 0,.str ByteArray.empty,.int .i64 0,.emp],false⟩),
 (139,⟨[(99,0,.bool)],.slice 5 (.int .u8),1,24,false,some [.emp],false⟩),
 (141,⟨[(0,5,(.int .u8))],.struct [(139,0,1),(139,1,1),(33,2,1)],3,56,true,some [.emp,.emp,.int .i64 0],false⟩),
 (148,⟨[],.struct [(51,0,1),(3,1,1)],2,32,true,some [.emp,.int .i64 0],false⟩),
 (161,⟨[],.struct [(9,0,1),(3,1,1)],2,24,true,some [.str ByteArray.empty,.int .i64 0],true⟩),
 (169,⟨[],.struct [(3,0,1),(3,1,1),(4,2,1)],3,24,true,some [.int .i64 0,.int .i64 0,.bool false],true⟩),
 (175,⟨[],.struct [(77,0,3),(9,3,1),(3,4,1),(3,5,1)],6,80,true,some [.str ByteArray.empty,.emp,.int .i64 0,.str ByteArray.empty,.int .i64 0,.int .i64 0],false⟩),
 (182,⟨[],.struct [(3,0,1),(3,1,1),(3,2,1),(4,3,1),(4,4,1),(4,5,1)],6,32,true,some [.int .i64 0,.int .i64 0,.int .i64 0,.bool false,.bool false,.bool false],true⟩),
 (183,⟨[],.ptr 185,1,8,false,some [.nil .ptr],false⟩),
 (185,⟨[],.struct [(77,0,3),(139,3,1)],4,72,true,some [.str ByteArray.empty,.emp,.int .i64 0,.emp],false⟩),
 (203,⟨[],.slice 33 (.int .i64),1,24,false,some [.emp],false⟩),
 (204,⟨[],.slice 121 (.pair (.int .i64) Y0),1,24,false,some [.emp],false⟩),
 (215,⟨[],.struct [(9,0,1),(3,1,1)],2,24,true,some [.str ByteArray.empty,.int .i64 0],true⟩),
 (226,⟨[],.struct [(3,0,1),(3,1,1)],2,16,true,some [.int .i64 0,.int .i64 0],true⟩),
 (233,⟨[],.struct [(3,0,1),(4,1,1)],2,16,true,some [.int .i64 0,.bool false],true⟩),
 (241,⟨[],.ptr 182,1,8,false,some [.nil .ptr],false⟩),
 (252,⟨[],.int .u64,1,8,false,some [.int .u64 0],false⟩),
 (273,⟨[],.struct [(3,0,1),(3,1,1)],2,16,true,some [.int .i64 0,.int .i64 0],true⟩),
 (280,⟨[],.struct [(273,0,2),(3,2,1),(3,3,1)],4,32,true,some [.int .i64 0,.int .i64 0,.int .i64 0,.int .i64 0],true⟩),
 (284,⟨[],.slice 122 (.slice Y1),1,24,false,some [.emp],false⟩),
 (295,⟨[],.int .u64,1,8,false,some [.int .u64 0],false⟩),
 (309,⟨[],.array 4 295,4,32,true,some [.int .u64 0,.int .u64 0,.int .u64 0,.int .u64 0],false⟩),
 (311,⟨[],.struct [(4,0,1),(309,1,4),(309,5,4)],9,72,true,some [.bool false,.int .u64 0,.int .u64 0,.int .u64 0,.int .u64 0,.int .u64 0,.int .u64 0,.int .u64 0,.int .u64 0],true⟩),
 (317,⟨[],.struct [(4,0,1),(51,1,1)],2,32,true,some [.bool false,.emp],false⟩),
 (319,⟨[],.struct [(317,0,2),(51,2,1)],3,56,true,some [.bool false,.emp,.emp],false⟩)]
theorem tm:TM P tab:=⟨by kernel_rfl,by kernel_rfl⟩
noncomputable def f995p0 {R:Type}(k:Nat)(k0:D0->Option R)(k1:D1->Option R)(v:D0):Option R :=
 bif ((decide ((0:Int)<=v.2.1))&&(decide (v.2.1<(v.2.2.1.length:Int)))) then
 bif (decide ((65:Int)<=(v.2.2.1.getD (Int.toNat v.2.1) (0:Int)))) then
  bif (decide ((v.2.2.1.getD (Int.toNat v.2.1) (0:Int))<=(90:Int))) then
   bif (decide ((48:Int)<=(v.2.2.1.getD (Int.toNat v.2.1) (0:Int)))) then
    bif (decide ((v.2.2.1.getD (Int.toNat v.2.1) (0:Int))<=(57:Int))) then
     k0 (v.1,v.2.1,v.2.2.1,())
    else
    bif ((v.2.2.1.getD (Int.toNat v.2.1) (0:Int))==(95:Int)) then
     k0 (v.1,v.2.1,v.2.2.1,())
    else
    k0 (v.1,v.2.1,v.2.2.1,())
   else
   bif ((v.2.2.1.getD (Int.toNat v.2.1) (0:Int))==(95:Int)) then
    k0 (v.1,v.2.1,v.2.2.1,())
   else
   k0 (v.1,v.2.1,v.2.2.1,())
  else
  bif ((v.2.2.1.getD (Int.toNat v.2.1) (0:Int))==(35:Int)) then
   bif (decide ((48:Int)<=(v.2.2.1.getD (Int.toNat v.2.1) (0:Int)))) then
    bif (decide ((v.2.2.1.getD (Int.toNat v.2.1) (0:Int))<=(57:Int))) then
     k0 (v.1,v.2.1,v.2.2.1,())
    else
    bif ((v.2.2.1.getD (Int.toNat v.2.1) (0:Int))==(95:Int)) then
     k0 (v.1,v.2.1,v.2.2.1,())
    else
    k0 (v.1,v.2.1,v.2.2.1,())
   else
   bif ((v.2.2.1.getD (Int.toNat v.2.1) (0:Int))==(95:Int)) then
    k0 (v.1,v.2.1,v.2.2.1,())
   else
   k0 (v.1,v.2.1,v.2.2.1,())
  else
  bif ((v.2.2.1.getD (Int.toNat v.2.1) (0:Int))==(36:Int)) then
   bif (decide ((48:Int)<=(v.2.2.1.getD (Int.toNat v.2.1) (0:Int)))) then
    bif (decide ((v.2.2.1.getD (Int.toNat v.2.1) (0:Int))<=(57:Int))) then
     k0 (v.1,v.2.1,v.2.2.1,())
    else
    bif ((v.2.2.1.getD (Int.toNat v.2.1) (0:Int))==(95:Int)) then
     k0 (v.1,v.2.1,v.2.2.1,())
    else
    k0 (v.1,v.2.1,v.2.2.1,())
   else
   bif ((v.2.2.1.getD (Int.toNat v.2.1) (0:Int))==(95:Int)) then
    k0 (v.1,v.2.1,v.2.2.1,())
   else
   k0 (v.1,v.2.1,v.2.2.1,())
  else
  bif (decide ((48:Int)<=(v.2.2.1.getD (Int.toNat v.2.1) (0:Int)))) then
   bif (decide ((v.2.2.1.getD (Int.toNat v.2.1) (0:Int))<=(57:Int))) then
    bif (!((v.2.2.1.getD (Int.toNat v.2.1) (0:Int))==(64:Int))) then
     bif (v.2.1==(0:Int)) then
      k1 (false,v.1,v.2.1,v.2.2.1,())
     else
     k0 (v.1,v.2.1,v.2.2.1,())
    else
    k0 (v.1,v.2.1,v.2.2.1,())
   else
   bif ((v.2.2.1.getD (Int.toNat v.2.1) (0:Int))==(95:Int)) then
    bif (!((v.2.2.1.getD (Int.toNat v.2.1) (0:Int))==(64:Int))) then
     bif (v.2.1==(0:Int)) then
      k1 (false,v.1,v.2.1,v.2.2.1,())
     else
     k0 (v.1,v.2.1,v.2.2.1,())
    else
    k0 (v.1,v.2.1,v.2.2.1,())
   else
   bif (!((v.2.2.1.getD (Int.toNat v.2.1) (0:Int))==(64:Int))) then
    bif (v.2.1==(0:Int)) then
     k1 (false,v.1,v.2.1,v.2.2.1,())
    else
    bif (!((v.2.2.1.getD (Int.toNat v.2.1) (0:Int))==(46:Int))) then
     k1 (false,v.1,v.2.1,v.2.2.1,())
    else
    k0 (v.1,v.2.1,v.2.2.1,())
   else
   k0 (v.1,v.2.1,v.2.2.1,())
  else
  bif ((v.2.2.1.getD (Int.toNat v.2.1) (0:Int))==(95:Int)) then
   bif (!((v.2.2.1.getD (Int.toNat v.2.1) (0:Int))==(64:Int))) then
    bif (v.2.1==(0:Int)) then
     k1 (false,v.1,v.2.1,v.2.2.1,())
    else
    k0 (v.1,v.2.1,v.2.2.1,())
   else
   k0 (v.1,v.2.1,v.2.2.1,())
  else
  bif (!((v.2.2.1.getD (Int.toNat v.2.1) (0:Int))==(64:Int))) then
   bif (v.2.1==(0:Int)) then
    k1 (false,v.1,v.2.1,v.2.2.1,())
   else
   bif (!((v.2.2.1.getD (Int.toNat v.2.1) (0:Int))==(46:Int))) then
    k1 (false,v.1,v.2.1,v.2.2.1,())
   else
   k0 (v.1,v.2.1,v.2.2.1,())
  else
  k0 (v.1,v.2.1,v.2.2.1,())
 else
 bif ((v.2.2.1.getD (Int.toNat v.2.1) (0:Int))==(35:Int)) then
  bif (decide ((48:Int)<=(v.2.2.1.getD (Int.toNat v.2.1) (0:Int)))) then
   bif (decide ((v.2.2.1.getD (Int.toNat v.2.1) (0:Int))<=(57:Int))) then
    k0 (v.1,v.2.1,v.2.2.1,())
   else
   bif ((v.2.2.1.getD (Int.toNat v.2.1) (0:Int))==(95:Int)) then
    k0 (v.1,v.2.1,v.2.2.1,())
   else
   k0 (v.1,v.2.1,v.2.2.1,())
  else
  bif ((v.2.2.1.getD (Int.toNat v.2.1) (0:Int))==(95:Int)) then
   k0 (v.1,v.2.1,v.2.2.1,())
  else
  k0 (v.1,v.2.1,v.2.2.1,())
 else
 bif ((v.2.2.1.getD (Int.toNat v.2.1) (0:Int))==(36:Int)) then
  bif (decide ((48:Int)<=(v.2.2.1.getD (Int.toNat v.2.1) (0:Int)))) then
   bif (decide ((v.2.2.1.getD (Int.toNat v.2.1) (0:Int))<=(57:Int))) then
    k0 (v.1,v.2.1,v.2.2.1,())
   else
   bif ((v.2.2.1.getD (Int.toNat v.2.1) (0:Int))==(95:Int)) then
    k0 (v.1,v.2.1,v.2.2.1,())
   else
   k0 (v.1,v.2.1,v.2.2.1,())
  else
  bif ((v.2.2.1.getD (Int.toNat v.2.1) (0:Int))==(95:Int)) then
   k0 (v.1,v.2.1,v.2.2.1,())
  else
  k0 (v.1,v.2.1,v.2.2.1,())
 else
 bif (decide ((48:Int)<=(v.2.2.1.getD (Int.toNat v.2.1) (0:Int)))) then
  bif (decide ((v.2.2.1.getD (Int.toNat v.2.1) (0:Int))<=(57:Int))) then
   bif (!((v.2.2.1.getD (Int.toNat v.2.1) (0:Int))==(64:Int))) then
    bif (v.2.1==(0:Int)) then
     k1 (false,v.1,v.2.1,v.2.2.1,())
    else
    k0 (v.1,v.2.1,v.2.2.1,())
   else
   k0 (v.1,v.2.1,v.2.2.1,())
  else
  bif ((v.2.2.1.getD (Int.toNat v.2.1) (0:Int))==(95:Int)) then
   bif (!((v.2.2.1.getD (Int.toNat v.2.1) (0:Int))==(64:Int))) then
    bif (v.2.1==(0:Int)) then
     k1 (false,v.1,v.2.1,v.2.2.1,())
    else
    k0 (v.1,v.2.1,v.2.2.1,())
   else
   k0 (v.1,v.2.1,v.2.2.1,())
  else
  bif (!((v.2.2.1.getD (Int.toNat v.2.1) (0:Int))==(64:Int))) then
   bif (v.2.1==(0:Int)) then
    k1 (false,v.1,v.2.1,v.2.2.1,())
   else
   bif (!((v.2.2.1.getD (Int.toNat v.2.1) (0:Int))==(46:Int))) then
    k1 (false,v.1,v.2.1,v.2.2.1,())
   else
   k0 (v.1,v.2.1,v.2.2.1,())
  else
  k0 (v.1,v.2.1,v.2.2.1,())
 else
 bif ((v.2.2.1.getD (Int.toNat v.2.1) (0:Int))==(95:Int)) then
  bif (!((v.2.2.1.getD (Int.toNat v.2.1) (0:Int))==(64:Int))) then
   bif (v.2.1==(0:Int)) then
    k1 (false,v.1,v.2.1,v.2.2.1,())
   else
   k0 (v.1,v.2.1,v.2.2.1,())
  else
  k0 (v.1,v.2.1,v.2.2.1,())
 else
 bif (!((v.2.2.1.getD (Int.toNat v.2.1) (0:Int))==(64:Int))) then
  bif (v.2.1==(0:Int)) then
   k1 (false,v.1,v.2.1,v.2.2.1,())
  else
  bif (!((v.2.2.1.getD (Int.toNat v.2.1) (0:Int))==(46:Int))) then
   k1 (false,v.1,v.2.1,v.2.2.1,())
  else
  k0 (v.1,v.2.1,v.2.2.1,())
 else
 k0 (v.1,v.2.1,v.2.2.1,())
 else none
noncomputable def f995p0S (k:Nat):=partSum ⟨[(15,.one (.own 0)),(16,.one (.int .i64)),(17,.one (.int .i64))],[(0,.row 5 (.int .u8) .mark)],1,[]⟩ ⟨[15,16,17],[],[]⟩ fun R K v=>f995p0 k (fun w=>K .normal (encSt ⟨[(15,.one (.own 0)),(16,.one (.int .i64)),(17,.one (.int .i64))],[(0,.row 5 (.int .u8) .mark)],1,[]⟩ w)) (fun w=>K .ret (encSt ⟨[(2,.one (.bool)),(15,.one (.own 0)),(16,.one (.int .i64)),(17,.one (.int .i64))],[(0,.row 5 (.int .u8) .mark)],1,[]⟩ w)) v
theorem f995p0O (k:Nat):SumO P Tryz.f95 934 (f995p0S k):=pt tm TB.nil ⟨[2,15,16,17],[],[]⟩ SumsOk.nil fun _ _ _=>by kernel_rfl
noncomputable def f995l1s {R:Type}(k:Nat)(rec:D0->Option R)(k0:Bool×Unit->Option R)(k1:Unit->Option R)(v:D0):Option R :=
 bif (decide (v.2.1<v.1)) then
  f995p0 k
   (fun (w1:D0) =>
    rec (w1.1,(IntKind.i64.wrap (w1.2.1+(1:Int))),w1.2.2.1,()))
   (fun (w2:D1) =>
    k0 (w2.1,()))
   (v.1,v.2.1,v.2.2.1,())
 else
 k1 (())
noncomputable def f995l1 {R:Type}(k:Nat)(k0:Bool×Unit->Option R)(k1:Unit->Option R)(v:D0):Option R:=iterS (fun rec v=>f995l1s k rec k0 k1 v) k v
noncomputable def f995l1S (k:Nat):=loopSum ⟨[(15,.one (.own 0)),(16,.one (.int .i64)),(17,.one (.int .i64))],[(0,.row 5 (.int .u8) .mark)],1,[]⟩ ⟨[15,16,17],[],[]⟩ k fun R rec K v=>f995l1s k rec (fun w=>K .ret (encSt ⟨[(2,.one (.bool))],[],0,[]⟩ w)) (fun w=>K (.exit 0) (encSt ⟨[],[],0,[]⟩ w)) v
theorem f995l1O (k:Nat):SumO P Tryz.f95 58 (f995l1S k):=lp tm TB.nil ⟨[2],[],[]⟩ (SumsOk.nil |>.s (f995p0O k) (by kernel_rfl)) (by kernel_rfl) fun _ _ _ _=>by kernel_rfl
noncomputable def f995F (k:Nat)(x:ByteArray):Option (Bool) :=
 bif (strEq x ByteArray.empty) then
  some false
 else
 bif (decide ((x.size:Int) > (10:Int))) then
  some false
 else
 bif (decide (x.size<=9223372036854775807)) then
 f995l1 k
  (fun (w3:Bool×Unit) =>
   some w3.1)
  (fun (w4:Unit) =>
   some true)
  (((bytesOf x).length:Int),(0:Int),(bytesOf x),())
 else none
theorem f995Ok (k:Nat):FnV P 95 [.dat .str] [.dat .bool] (f995F k) :=
 fs tm TB.nil Tryz.func95 (by kernel_rfl) (SumsOk.nil |>.s (f995l1O k) (by kernel_rfl) |>.s (f995p0O k) (by kernel_rfl)) none fun _=>by kernel_rfl
noncomputable def f968F (k:Nat)(x:Bool×Int):Option (Int) :=
 bif x.1 then
  some x.2
 else
 some (0:Int)
theorem f968Ok (k:Nat):FnV P 68 [.dat .bool,.dat (.int .i64)] [.dat (.int .i64)] (f968F k) :=
 fs tm TB.nil Tryz.func68 (by kernel_rfl) SumsOk.nil none fun _=>by kernel_rfl
noncomputable def f966l0s {R:Type}(k:Nat)(rec:D2->Option R)(k0:Int×Unit->Option R)(k1:Unit->Option R)(v:D2):Option R :=
 bif (decide (v.2.2.1<v.2.1)) then
  bif ((decide ((0:Int)<=v.2.2.1))&&(decide (v.2.2.1<(v.1.length:Int)))) then
  bif ((v.1.getD (Int.toNat v.2.2.1) (0:Int)) !=(0:Int)) then
   k0 ((v.1.getD (Int.toNat v.2.2.1) (0:Int)),())
  else
  rec (v.1,v.2.1,(IntKind.i64.wrap (v.2.2.1+(1:Int))),())
  else none
 else
 k1 (())
noncomputable def f966l0 {R:Type}(k:Nat)(k0:Int×Unit->Option R)(k1:Unit->Option R)(v:D2):Option R:=iterS (fun rec v=>f966l0s k rec k0 k1 v) k v
noncomputable def f966l0S (k:Nat):=loopSum ⟨[(5,.one (.ro (.int .i64))),(6,.one (.int .i64)),(7,.one (.int .i64))],[],0,[]⟩ ⟨[5,6,7],[],[]⟩ k fun R rec K v=>f966l0s k rec (fun w=>K .ret (encSt ⟨[(2,.one (.int .i64))],[],0,[]⟩ w)) (fun w=>K (.exit 0) (encSt ⟨[],[],0,[]⟩ w)) v
theorem f966l0O (k:Nat):SumO P Tryz.f66 26 (f966l0S k):=lp tm TB.nil ⟨[2],[],[]⟩ SumsOk.nil (by kernel_rfl) fun _ _ _ _=>by kernel_rfl
noncomputable def f966F (k:Nat)(x:(List Int)):Option (Int) :=
 f966l0 k
  (fun (w1:Int×Unit) =>
   some w1.1)
  (fun (w2:Unit) =>
   some (0:Int))
  (x,(x.length:Int),(0:Int),())
theorem f966Ok (k:Nat):FnV P 66 [.dat (.slice (.int .i64))] [.dat (.int .i64)] (f966F k) :=
 fs tm TB.nil Tryz.func66 (by kernel_rfl) (SumsOk.nil |>.s (f966l0O k) (by kernel_rfl)) none fun _=>by kernel_rfl
noncomputable def f969F (k:Nat)(x:Int×Int×Int):Option (Bool) :=
 bif (decide (x.2.1<=x.1)) then
  some (decide (x.1<=x.2.2))
 else
 some false
theorem f969Ok (k:Nat):FnV P 69 [.dat (.int .i64),.dat (.int .i64),.dat (.int .i64)] [.dat .bool] (f969F k) :=
 fs tm TB.nil Tryz.func69 (by kernel_rfl) SumsOk.nil none fun _=>by kernel_rfl
noncomputable def f1082F (k:Nat)(x:Int):Option (Bool) :=
 bif (decide (x<(32:Int))) then
  some true
 else
 some (decide (x > (126:Int)))
theorem f1082Ok (k:Nat):FnV P 182 [.dat (.int .u8)] [.dat .bool] (f1082F k) :=
 fs tm TB.nil Tryz.func182 (by kernel_rfl) SumsOk.nil none fun _=>by kernel_rfl
noncomputable def f1118v0I:Shape:=⟨[(0,.one (.own 0)),(1,.one (.fn 182 []))],[(0,.row 5 (.int .u8) .mark)],1,[]⟩
noncomputable def f1118v0U:Shape:=⟨[(0,.one (.int .i64))],[(0,.row 5 (.int .u8) .mark)],1,[]⟩
noncomputable def f1118v0T (k:Nat):TB P:=TB.nil |>.u (f1082Ok k)
noncomputable def f1118v0l0s {R:Type}(k:Nat)(rec:D0->Option R)(k0:Int×List Int×Unit->Option R)(k1:List Int×Unit->Option R)(v:D0):Option R :=
 bif (decide (v.2.1<v.1)) then
  bif ((decide ((0:Int)<=v.2.1))&&(decide (v.2.1<(v.2.2.1.length:Int)))) then
  Option.bind (f1082F k (v.2.2.1.getD (Int.toNat v.2.1) (0:Int))) fun y1 =>
  bif y1 then
   k0 (v.2.1,v.2.2.1,())
  else
  rec (v.1,(IntKind.i64.wrap (v.2.1+(1:Int))),v.2.2.1,())
  else none
 else
 k1 (v.2.2.1,())
noncomputable def f1118v0l0 {R:Type}(k:Nat)(k0:Int×List Int×Unit->Option R)(k1:List Int×Unit->Option R)(v:D0):Option R:=iterS (fun rec v=>f1118v0l0s k rec k0 k1 v) k v
noncomputable def f1118v0l0S (k:Nat):=loopSum ⟨[(0,.one (.own 0)),(1,.one (.fn 182 [])),(7,.one (.int .i64)),(8,.one (.int .i64))],[(0,.row 5 (.int .u8) .mark)],1,[some 0]⟩ ⟨[0,1,7,8],[],[]⟩ k fun R rec K v=>f1118v0l0s k rec (fun w=>K .ret (encSt ⟨[(4,.one (.int .i64))],[(0,.row 5 (.int .u8) .mark)],1,[some 0]⟩ w)) (fun w=>K (.exit 0) (encSt ⟨[],[(0,.row 5 (.int .u8) .mark)],1,[some 0]⟩ w)) v
theorem f1118v0l0O (k:Nat):SumO P Tryz.f218 26 (f1118v0l0S k):=lp tm (f1118v0T k) ⟨[4],[],[]⟩ SumsOk.nil (by kernel_rfl) fun _ _ _ _=>by kernel_rfl
noncomputable def f1118v0F (k:Nat)(x:List Int×Unit):Option (Int×List Int×Unit) :=
 f1118v0l0 k
  (fun (w2:Int×List Int×Unit) =>
   some (w2.1,w2.2.1,()))
  (fun (w3:List Int×Unit) =>
   some ((-1:Int),w3.1,()))
  ((x.1.length:Int),(0:Int),x.1,())
theorem f1118v0Ok (k:Nat):GnV P 218 f1118v0I f1118v0U (f1118v0F k) :=
 gs tm (f1118v0T k) Tryz.func218 (by kernel_rfl) (SumsOk.nil |>.s (f1118v0l0O k) (by kernel_rfl)) [.dat .bool] [] none fun _=>by kernel_rfl
noncomputable def f1081v0I:Shape:=⟨[(0,.one (.own 0)),(1,.one (.fn 182 []))],[(0,.row 5 (.int .u8) .mark)],1,[]⟩
noncomputable def f1081v0U:Shape:=⟨[(0,.one (.bool))],[(0,.row 5 (.int .u8) .mark)],1,[]⟩
noncomputable def f1081v0T (k:Nat):TB P:=TB.nil |>.g (f1118v0Ok k)
noncomputable def f1081v0F (k:Nat)(x:List Int×Unit):Option (Bool×List Int×Unit) :=
 Option.bind (f1118v0F k (x.1,())) fun y1 =>
 some ((decide (y1.1≥(0:Int))),y1.2.1,())
theorem f1081v0Ok (k:Nat):GnV P 181 f1081v0I f1081v0U (f1081v0F k) :=
 gs tm (f1081v0T k) Tryz.func181 (by kernel_rfl) SumsOk.nil [.dat .bool] [] none fun _=>by kernel_rfl
noncomputable def f1024T (k:Nat):TB P:=TB.nil |>.g (f1081v0Ok k)
noncomputable def f1024F (k:Nat)(x:ByteArray):Option (Bool) :=
 bif (decide (x.size<=9223372036854775807)) then
 Option.bind (f1081v0F k ((bytesOf x),())) fun y1 =>
 some (!y1.1)
 else none
theorem f1024Ok (k:Nat):FnV P 124 [.dat .str] [.dat .bool] (f1024F k) :=
 fs tm (f1024T k) Tryz.func124 (by kernel_rfl) SumsOk.nil none fun _=>by kernel_rfl
noncomputable def f1102l0s {R:Type}(k:Nat)(rec:D3->Option R)(k0:Int×Unit->Option R)(k1:Unit->Option R)(v:D3):Option R :=
 bif (decide (v.2.2.2.1<v.2.2.1)) then
  bif ((decide ((0:Int)<=v.2.2.2.1))&&(decide (v.2.2.2.1<(v.1.length:Int)))) then
  bif (strEq v.2.1 (v.1.getD (Int.toNat v.2.2.2.1) ByteArray.empty)) then
   k0 (v.2.2.2.1,())
  else
  rec (v.1,v.2.1,v.2.2.1,(IntKind.i64.wrap (v.2.2.2.1+(1:Int))),())
  else none
 else
 k1 (())
noncomputable def f1102l0 {R:Type}(k:Nat)(k0:Int×Unit->Option R)(k1:Unit->Option R)(v:D3):Option R:=iterS (fun rec v=>f1102l0s k rec k0 k1 v) k v
noncomputable def f1102l0S (k:Nat):=loopSum ⟨[(0,.one (.ro .str)),(1,.one (.str)),(7,.one (.int .i64)),(8,.one (.int .i64))],[],0,[]⟩ ⟨[0,1,7,8],[],[]⟩ k fun R rec K v=>f1102l0s k rec (fun w=>K .ret (encSt ⟨[(4,.one (.int .i64))],[],0,[]⟩ w)) (fun w=>K (.exit 0) (encSt ⟨[],[],0,[]⟩ w)) v
theorem f1102l0O (k:Nat):SumO P Tryz.f202 26 (f1102l0S k):=lp tm TB.nil ⟨[4],[],[]⟩ SumsOk.nil (by kernel_rfl) fun _ _ _ _=>by kernel_rfl
noncomputable def f1102F (k:Nat)(x:D4):Option (Int) :=
 f1102l0 k
  (fun (w1:Int×Unit) =>
   some w1.1)
  (fun (w2:Unit) =>
   some (-1:Int))
  (x.1,x.2,(x.1.length:Int),(0:Int),())
theorem f1102Ok (k:Nat):FnV P 202 [.dat (.slice .str),.dat .str] [.dat (.int .i64)] (f1102F k) :=
 fs tm TB.nil Tryz.func202 (by kernel_rfl) (SumsOk.nil |>.s (f1102l0O k) (by kernel_rfl)) none fun _=>by kernel_rfl
noncomputable def f1048T (k:Nat):TB P:=TB.nil |>.u (f1102Ok k)
noncomputable def f1048F (k:Nat)(x:D4):Option (Bool) :=
 Option.bind (f1102F k (x.1,x.2)) fun y1 =>
 some (decide (y1≥(0:Int)))
theorem f1048Ok (k:Nat):FnV P 148 [.dat (.slice .str),.dat .str] [.dat .bool] (f1048F k) :=
 fs tm (f1048T k) Tryz.func148 (by kernel_rfl) SumsOk.nil none fun _=>by kernel_rfl
noncomputable def f70F (k:Nat)(x:Int×Int×Int):Option (Bool) :=
 bif (decide (x.2.1<=x.1)) then
  some (decide (x.1<=x.2.2))
 else
 some false
theorem f70Ok (k:Nat):FnV P 187 [.dat (.int .i64),.dat (.int .i64),.dat (.int .i64)] [.dat .bool] (f70F k) :=
 fs tm TB.nil Tryz.func187 (by kernel_rfl) SumsOk.nil none fun _=>by kernel_rfl
noncomputable def f43F (k:Nat)(x:Bool×Int):Option (Int) :=
 bif x.1 then
  some x.2
 else
 some (0:Int)
theorem f43Ok (k:Nat):FnV P 185 [.dat .bool,.dat (.int .i64)] [.dat (.int .i64)] (f43F k) :=
 fs tm TB.nil Tryz.func185 (by kernel_rfl) SumsOk.nil none fun _=>by kernel_rfl
noncomputable def f42l0s {R:Type}(k:Nat)(rec:D2->Option R)(k0:Int×Unit->Option R)(k1:Unit->Option R)(v:D2):Option R :=
 bif (decide (v.2.2.1<v.2.1)) then
  bif ((decide ((0:Int)<=v.2.2.1))&&(decide (v.2.2.1<(v.1.length:Int)))) then
  bif ((v.1.getD (Int.toNat v.2.2.1) (0:Int)) !=(0:Int)) then
   k0 ((v.1.getD (Int.toNat v.2.2.1) (0:Int)),())
  else
  rec (v.1,v.2.1,(IntKind.i64.wrap (v.2.2.1+(1:Int))),())
  else none
 else
 k1 (())
noncomputable def f42l0 {R:Type}(k:Nat)(k0:Int×Unit->Option R)(k1:Unit->Option R)(v:D2):Option R:=iterS (fun rec v=>f42l0s k rec k0 k1 v) k v
noncomputable def f42l0S (k:Nat):=loopSum ⟨[(5,.one (.ro (.int .i64))),(6,.one (.int .i64)),(7,.one (.int .i64))],[],0,[]⟩ ⟨[5,6,7],[],[]⟩ k fun R rec K v=>f42l0s k rec (fun w=>K .ret (encSt ⟨[(2,.one (.int .i64))],[],0,[]⟩ w)) (fun w=>K (.exit 0) (encSt ⟨[],[],0,[]⟩ w)) v
theorem f42l0O (k:Nat):SumO P Tryz.f184 26 (f42l0S k):=lp tm TB.nil ⟨[2],[],[]⟩ SumsOk.nil (by kernel_rfl) fun _ _ _ _=>by kernel_rfl
noncomputable def f42F (k:Nat)(x:(List Int)):Option (Int) :=
 f42l0 k
  (fun (w1:Int×Unit) =>
   some w1.1)
  (fun (w2:Unit) =>
   some (0:Int))
  (x,(x.length:Int),(0:Int),())
theorem f42Ok (k:Nat):FnV P 184 [.dat (.slice (.int .i64))] [.dat (.int .i64)] (f42F k) :=
 fs tm TB.nil Tryz.func184 (by kernel_rfl) (SumsOk.nil |>.s (f42l0O k) (by kernel_rfl)) none fun _=>by kernel_rfl
noncomputable def f28T (k:Nat):TB P:=TB.nil |>.u (f70Ok k) |>.u (f43Ok k) |>.u (f42Ok k)
noncomputable def f28p0 {R:Type}(k:Nat)(k0:D5->Option R)(v:D6):Option R :=
 bif (v.2.1==(1:Int)) then
  k0 (v.1,v.2.1,(v.2.1==(1:Int)),v.2.2.1,v.2.2.2.1,v.2.2.2.2.1,())
 else
 k0 (v.1,v.2.1,(v.2.1==(2:Int)),v.2.2.1,v.2.2.2.1,v.2.2.2.2.1,())
noncomputable def f28p0S (k:Nat):=partSum ⟨[(1,.one (.ptr 0 0)),(4,.one (.bool)),(9,.one (.int .i64))],[(0,.var 121 [.int .i64,.int .i64,.int .i64])],1,[]⟩ ⟨[1,4,9],[],[]⟩ fun R K v=>f28p0 k (fun w=>K .normal (encSt ⟨[(1,.one (.ptr 0 0)),(4,.one (.bool)),(9,.one (.int .i64)),(15,.one (.bool))],[(0,.var 121 [.int .i64,.int .i64,.int .i64])],1,[]⟩ w)) v
theorem f28p0O (k:Nat):SumO P Tryz.f149 470 (f28p0S k):=pt tm (f28T k) ⟨[1,2,4,9,15],[],[]⟩ SumsOk.nil fun _ _ _=>by kernel_rfl
noncomputable def f28p1 {R:Type}(k:Nat)(k0:Bool×Bool×Unit->Option R)(k1:Int×Bool×Unit->Option R)(v:D7):Option R :=
 bif (v.2.1==(0:Int)) then
  Option.bind (f70F k (v.2.2.1,(1:Int),(256:Int))) fun y1 =>
  k0 (y1,v.1,())
 else
 f28p0 k
  (fun (w2:D5) =>
   bif w2.2.2.1 then
    Option.bind (f70F k (w2.2.2.2.2.1,(1:Int),(15:Int))) fun y3 =>
    Option.bind (f70F k (w2.2.2.2.2.2.1,(0:Int),w2.2.2.2.2.1)) fun y4 =>
    k0 (y3,y4,())
   else
   bif (w2.2.1==(3:Int)) then
    bif (w2.2.2.2.2.1==(4:Int)) then
     Option.bind (f70F k (w2.2.2.2.2.2.1,(0:Int),w2.2.2.2.2.1)) fun y5 =>
     k0 (true,y5,())
    else
    Option.bind (f70F k (w2.2.2.2.2.2.1,(0:Int),w2.2.2.2.2.1)) fun y6 =>
    k0 ((w2.2.2.2.2.1==(9:Int)),y6,())
   else
   bif (w2.2.1==(4:Int)) then
    k0 ((w2.2.2.2.2.1==(0:Int)),w2.1,())
   else
   k1 ((4:Int),w2.1,()))
  (v.1,v.2.1,v.2.1,v.2.2.1,v.2.2.2.1,())
noncomputable def f28p1S (k:Nat):=partSum ⟨[(1,.one (.ptr 0 0)),(4,.one (.bool))],[(0,.var 121 [.int .i64,.int .i64,.int .i64])],1,[]⟩ ⟨[1,4],[],[]⟩ fun R K v=>f28p1 k (fun w=>K .normal (encSt ⟨[(3,.one (.bool)),(4,.one (.bool))],[],0,[]⟩ w)) (fun w=>K .ret (encSt ⟨[(2,.one (.int .i64)),(4,.one (.bool))],[],0,[]⟩ w)) v
theorem f28p1O (k:Nat):SumO P Tryz.f149 14 (f28p1S k):=pt tm (f28T k) ⟨[2,3,4],[],[]⟩ (SumsOk.nil |>.s (f28p0O k) (by kernel_rfl)) fun _ _ _=>by kernel_rfl
noncomputable def f28F (k:Nat)(x:(Int×(Int×Int))):Option (Int) :=
 f28p1 k
  (fun (w7:Bool×Bool×Unit) =>
   Option.bind (f43F k ((!w7.1),(18:Int))) fun y8 =>
   Option.bind (f43F k ((!w7.2.1),(3:Int))) fun y9 =>
   Option.bind (f42F k [y8,y9]) fun y10 =>
   some y10)
  (fun (w11:Int×Bool×Unit) =>
   some w11.1)
  ((x.2.2==(0:Int)),x.1,x.2.1,x.2.2,())
theorem f28Ok (k:Nat):FnV P 149 [.agg (.pair (.int .i64) Y0)] [.dat (.int .i64)] (f28F k) :=
 fs tm (f28T k) Tryz.func149 (by kernel_rfl) (SumsOk.nil |>.s (f28p1O k) (by kernel_rfl) |>.s (f28p0O k) (by kernel_rfl)) none fun _=>by kernel_rfl
noncomputable def f996T (k:Nat):TB P:=TB.nil |>.u (f28Ok k) |>.u (f1048Ok k) |>.u (f1024Ok k) |>.u (f995Ok k) |>.u (f969Ok k) |>.u (f968Ok k) |>.u (f966Ok k)
noncomputable def f996F (k:Nat)(x:D11×(List ByteArray)):Option (Int) :=
 bif (x.1.2.2.2.2.1==(0:Int)) then
  bif (!strEq x.1.1 ByteArray.empty) then
   Option.bind (f968F k (true,(5:Int))) fun y1 =>
   Option.bind (f969F k ((x.1.2.2.2.2.2.1.size:Int),(1:Int),(79:Int))) fun y2 =>
   Option.bind (f968F k ((!y2),(18:Int))) fun y3 =>
   Option.bind (f1024F k x.1.2.2.2.2.2.1) fun y4 =>
   Option.bind (f968F k ((!y4),(8:Int))) fun y5 =>
   Option.bind (f966F k [y1,y3,y5]) fun y6 =>
   some y6
  else
  let t7:=(!((x.1.2.2.2.1.1==(0:Int))&&((x.1.2.2.2.1.2.1==(0:Int))&&((x.1.2.2.2.1.2.2==(0:Int))&&true))))
  Option.bind (f968F k (t7,(5:Int))) fun y8 =>
  Option.bind (f969F k ((x.1.2.2.2.2.2.1.size:Int),(1:Int),(79:Int))) fun y9 =>
  Option.bind (f968F k ((!y9),(18:Int))) fun y10 =>
  Option.bind (f1024F k x.1.2.2.2.2.2.1) fun y11 =>
  Option.bind (f968F k ((!y11),(8:Int))) fun y12 =>
  Option.bind (f966F k [y8,y10,y12]) fun y13 =>
  some y13
 else
 Option.bind (f968F k ((!strEq x.1.2.2.2.2.2.1 ByteArray.empty),(5:Int))) fun y14 =>
 Option.bind (f995F k x.1.1) fun y15 =>
 Option.bind (f968F k ((!y15),(7:Int))) fun y16 =>
 Option.bind (f1048F k (x.2,x.1.1)) fun y17 =>
 Option.bind (f968F k (y17,(13:Int))) fun y18 =>
 Option.bind (f28F k (x.1.2.2.2.1.1,(x.1.2.2.2.1.2.1,x.1.2.2.2.1.2.2))) fun y19 =>
 Option.bind (f968F k ((x.1.2.2.2.1.1==(4:Int)),(17:Int))) fun y20 =>
 Option.bind (f966F k [y14,y16,y18,y19,y20]) fun y21 =>
 some y21
theorem f996Ok (k:Nat):FnV P 96 [.agg (.pair .str Y5),.dat (.slice .str)] [.dat (.int .i64)] (f996F k) :=
 fs tm (f996T k) Tryz.func96 (by kernel_rfl) SumsOk.nil none fun _=>by kernel_rfl
noncomputable def f1050F (k:Nat)(x:D11):Option (Int) :=
 bif (x.2.2.2.2.1==(0:Int)) then
  some (x.2.2.2.2.2.1.size:Int)
 else
 bif (x.2.2.2.1.1==(0:Int)) then
  some x.2.2.2.1.2.1
 else
 bif (x.2.2.2.1.2.2==x.2.2.2.1.2.1) then
  some (IntKind.i64.wrap (x.2.2.2.1.2.1+(3:Int)))
 else
 bif (decide (x.2.2.2.1.2.2 > (0:Int))) then
  some (IntKind.i64.wrap (x.2.2.2.1.2.1+(2:Int)))
 else
 some (IntKind.i64.wrap (x.2.2.2.1.2.1+(1:Int)))
theorem f1050Ok (k:Nat):FnV P 150 [.agg (.pair .str Y5)] [.dat (.int .i64)] (f1050F k) :=
 fs tm TB.nil Tryz.func150 (by kernel_rfl) SumsOk.nil none fun _=>by kernel_rfl
noncomputable def f998T (k:Nat):TB P:=TB.nil |>.u (f1050Ok k)
noncomputable def f998F (k:Nat)(x:D11×D11):Option (Bool) :=
 bif (x.1.2.1==x.2.2.1) then
  Option.bind (f1050F k (x.2.1,(x.2.2.1,(x.2.2.2.1,((x.2.2.2.2.1.1,(x.2.2.2.2.1.2.1,x.2.2.2.2.1.2.2)),(x.2.2.2.2.2.1,(x.2.2.2.2.2.2.1,(x.2.2.2.2.2.2.2.1,x.2.2.2.2.2.2.2.2)))))))) fun y1 =>
  let t2:=(decide ((IntKind.i64.wrap (x.1.2.2.1 - (1:Int)))<(IntKind.i64.wrap (x.2.2.2.1+y1))))
  bif t2 then
   Option.bind (f1050F k (x.1.1,(x.1.2.1,(x.1.2.2.1,((x.1.2.2.2.1.1,(x.1.2.2.2.1.2.1,x.1.2.2.2.1.2.2)),(x.1.2.2.2.2.1,(x.1.2.2.2.2.2.1,(x.1.2.2.2.2.2.2.1,x.1.2.2.2.2.2.2.2)))))))) fun y3 =>
   let t4:=(decide ((IntKind.i64.wrap (x.2.2.2.1 - (1:Int)))<(IntKind.i64.wrap (x.1.2.2.1+y3))))
   some t4
  else
  some false
 else
 some false
theorem f998Ok (k:Nat):FnV P 98 [.agg (.pair .str Y5),.agg (.pair .str Y5)] [.dat .bool] (f998F k) :=
 fs tm (f998T k) Tryz.func98 (by kernel_rfl) SumsOk.nil none fun _=>by kernel_rfl
noncomputable def f1103v0I:Shape:=⟨[(0,.one (.emp)),(1,.one (.int .i64))],[],0,[]⟩
noncomputable def f1103v0U:Shape:=⟨[(0,.one (.own 0))],[(0,.row 233 Y1 .plain)],1,[]⟩
noncomputable def f1103v0p0 {R:Type}(k:Nat)(k0:D14->Option R)(k1:Unit->Option R)(v:Int×Unit):Option R :=
 bif (decide ((IntKind.i64.wrap (v.1 - (0:Int))) > (0:Int))) then
  bif (sliceBds (0:Int) (0:Int) 0) then
  bif (((decide ((0:Int)<=(IntKind.i64.wrap (v.1 - (0:Int)))))&&((decide (((IntKind.i64.wrap (v.1 - (0:Int)))*16)<=(140737488355328:Int)))&&(decide ((IntKind.i64.wrap (v.1 - (0:Int)))<=(9223372036854775807:Int)))))&&(decide ((([]:List (Int×Bool)).length+(List.replicate (Int.toNat (IntKind.i64.wrap (v.1 - (0:Int)))) ((0:Int),false)).length)*16<=140737488355328)&&decide (([]:List (Int×Bool)).length+(List.replicate (Int.toNat (IntKind.i64.wrap (v.1 - (0:Int)))) ((0:Int),false)).length<=9223372036854775807))) then
  let t1:=([]++(List.replicate (Int.toNat (IntKind.i64.wrap (v.1 - (0:Int)))) ((0:Int),false)))
  bif (sliceBds (0:Int) (0:Int) (t1.length:Int)) then
  k0 ((t1.take 0),())
  else none
  else none
  else none
 else
 k1 (())
noncomputable def f1103v0p0S (k:Nat):=partSum ⟨[(0,.one (.emp)),(1,.one (.int .i64))],[],0,[]⟩ ⟨[0,1],[],[]⟩ fun R K v=>f1103v0p0 k (fun w=>K .normal (encSt ⟨[(0,.one (.own 0))],[(0,.row 233 Y1 .plain)],1,[]⟩ w)) (fun w=>K .normal (encSt ⟨[(0,.one (.emp))],[],0,[]⟩ w)) v
theorem f1103v0p0O (k:Nat):SumO P Tryz.f203 14 (f1103v0p0S k):=pt tm TB.nil ⟨[0,4],[],[]⟩ SumsOk.nil fun _ _ _=>by kernel_rfl
noncomputable def f1103v0F (k:Nat)(x:Int×Unit):Option (D14) :=
 bif (decide (x.1<(0:Int))) then
  none
 else
 f1103v0p0 k
  (fun (w2:D14) =>
   some (w2.1,()))
  (fun (w3:Unit) =>
   some ([],()))
  (x.1,())
theorem f1103v0Ok (k:Nat):GnV P 203 f1103v0I f1103v0U (f1103v0F k) :=
 gs tm TB.nil Tryz.func203 (by kernel_rfl) (SumsOk.nil |>.s (f1103v0p0O k) (by kernel_rfl)) [.own 233 Y1] [] none fun _=>by kernel_rfl
noncomputable def f1051T (k:Nat):TB P:=TB.nil |>.g (f1103v0Ok k)
noncomputable def f1051l0s {R:Type}(k:Nat)(rec:D15->Option R)(k0:D13->Option R)(v:D15):Option R :=
 bif (decide (v.2.2.2.2.1<v.2.2.2.1)) then
  bif ((decide ((0:Int)<=v.2.2.2.2.1))&&(decide (v.2.2.2.2.1<(v.2.2.1.length:Int)))) then
  let t1:=(IntKind.i64.wrap (v.2.1+((v.2.2.1.getD (Int.toNat v.2.2.2.2.1) []).length:Int)))
  bif (decide (t1<(0:Int))) then
   none
  else
  rec (v.1,t1,v.2.2.1,v.2.2.2.1,(IntKind.i64.wrap (v.2.2.2.2.1+(1:Int))),())
  else none
 else
 k0 (v.1,v.2.1,())
noncomputable def f1051l0 {R:Type}(k:Nat)(k0:D13->Option R)(v:D15):Option R:=iterS (fun rec v=>f1051l0s k rec k0 v) k v
noncomputable def f1051l0S (k:Nat):=loopSum ⟨[(0,.one (.ro (.slice Y1))),(3,.one (.int .i64)),(9,.one (.ro (.slice Y1))),(10,.one (.int .i64)),(11,.one (.int .i64))],[],0,[]⟩ ⟨[0,3,9,10,11],[],[]⟩ k fun R rec K v=>f1051l0s k rec (fun w=>K (.exit 0) (encSt ⟨[(0,.one (.ro (.slice Y1))),(3,.one (.int .i64))],[],0,[]⟩ w)) v
theorem f1051l0O (k:Nat):SumO P Tryz.f151 58 (f1051l0S k):=lp tm (f1051T k) ⟨[0,2,3],[],[]⟩ SumsOk.nil (by kernel_rfl) fun _ _ _ _=>by kernel_rfl
noncomputable def f1051l1s {R:Type}(k:Nat)(rec:D16->Option R)(k0:D14->Option R)(v:D16):Option R :=
 bif (decide (v.2.2.1<v.2.1)) then
  bif ((decide ((0:Int)<=v.2.2.1))&&(decide (v.2.2.1<(v.1.length:Int)))) then
  bif (decide ((v.2.2.2.1.length+(v.1.getD (Int.toNat v.2.2.1) []).length)*16<=140737488355328)&&decide (v.2.2.2.1.length+(v.1.getD (Int.toNat v.2.2.1) []).length<=9223372036854775807)) then
  rec (v.1,v.2.1,(IntKind.i64.wrap (v.2.2.1+(1:Int))),(v.2.2.2.1++(v.1.getD (Int.toNat v.2.2.1) [])),())
  else none
  else none
 else
 k0 (v.2.2.2.1,())
noncomputable def f1051l1 {R:Type}(k:Nat)(k0:D14->Option R)(v:D16):Option R:=iterS (fun rec v=>f1051l1s k rec k0 v) k v
noncomputable def f1051l1S (k:Nat):=loopSum ⟨[(6,.one (.own 0)),(25,.one (.ro (.slice Y1))),(26,.one (.int .i64)),(27,.one (.int .i64))],[(0,.row 233 Y1 .plain)],1,[]⟩ ⟨[6,25,26,27],[],[]⟩ k fun R rec K v=>f1051l1s k rec (fun w=>K (.exit 2) (encSt ⟨[(6,.one (.own 0))],[(0,.row 233 Y1 .plain)],1,[]⟩ w)) v
theorem f1051l1O (k:Nat):SumO P Tryz.f151 250 (f1051l1S k):=lp tm (f1051T k) ⟨[2,6],[],[]⟩ SumsOk.nil (by kernel_rfl) fun _ _ _ _=>by kernel_rfl
noncomputable def f1051F (k:Nat)(x:D17):Option (List (Int×Bool)) :=
 f1051l0 k
  (fun (w2:D13) =>
   Option.bind (f1103v0F k (w2.2.1,())) fun y3 =>
   f1051l1 k
    (fun (w4:D14) =>
     some w4.1)
    (w2.1,(w2.1.length:Int),(0:Int),y3.1,()))
  (x,(0:Int),x,(x.length:Int),(0:Int),())
theorem f1051Ok (k:Nat):FnV P 151 [.dat (.slice (.slice Y1))] [.own 233 Y1] (f1051F k) :=
 fs tm (f1051T k) Tryz.func151 (by kernel_rfl) (SumsOk.nil |>.s (f1051l1O k) (by kernel_rfl) |>.s (f1051l0O k) (by kernel_rfl)) none fun _=>by kernel_rfl
noncomputable def f1105l0s {R:Type}(k:Nat)(rec:D18->Option R)(k0:Int×Unit->Option R)(k1:Unit->Option R)(v:D18):Option R :=
 bif (decide (v.2.2.1<v.2.1)) then
  bif ((decide ((0:Int)<=v.2.2.1))&&(decide (v.2.2.1<(v.1.length:Int)))) then
  let t1:=((v.2.2.2.1==(v.1.getD (Int.toNat v.2.2.1) ((0:Int),false)).1)&&((v.2.2.2.2.1==(v.1.getD (Int.toNat v.2.2.1) ((0:Int),false)).2)&&true))
  bif t1 then
   k0 (v.2.2.1,())
  else
  rec (v.1,v.2.1,(IntKind.i64.wrap (v.2.2.1+(1:Int))),v.2.2.2.1,v.2.2.2.2.1,())
  else none
 else
 k1 (())
noncomputable def f1105l0 {R:Type}(k:Nat)(k0:Int×Unit->Option R)(k1:Unit->Option R)(v:D18):Option R:=iterS (fun rec v=>f1105l0s k rec k0 k1 v) k v
noncomputable def f1105l0S (k:Nat):=loopSum ⟨[(0,.one (.ro Y1)),(3,.one (.ptr 0 0)),(7,.one (.int .i64)),(8,.one (.int .i64))],[(0,.var 233 [.int .i64,.bool])],1,[]⟩ ⟨[0,3,7,8],[],[]⟩ k fun R rec K v=>f1105l0s k rec (fun w=>K .ret (encSt ⟨[(4,.one (.int .i64))],[],0,[]⟩ w)) (fun w=>K (.exit 0) (encSt ⟨[],[],0,[]⟩ w)) v
theorem f1105l0O (k:Nat):SumO P Tryz.f205 26 (f1105l0S k):=lp tm TB.nil ⟨[4],[],[]⟩ SumsOk.nil (by kernel_rfl) fun _ _ _ _=>by kernel_rfl
noncomputable def f1105F (k:Nat)(x:D19):Option (Int) :=
 f1105l0 k
  (fun (w2:Int×Unit) =>
   some w2.1)
  (fun (w3:Unit) =>
   some (-1:Int))
  (x.1,(x.1.length:Int),(0:Int),x.2.1,x.2.2,())
theorem f1105Ok (k:Nat):FnV P 205 [.dat (.slice Y1),.agg Y1] [.dat (.int .i64)] (f1105F k) :=
 fs tm TB.nil Tryz.func205 (by kernel_rfl) (SumsOk.nil |>.s (f1105l0O k) (by kernel_rfl)) none fun _=>by kernel_rfl
noncomputable def f1054T (k:Nat):TB P:=TB.nil |>.u (f1105Ok k)
noncomputable def f1054F (k:Nat)(x:D19):Option (Bool) :=
 Option.bind (f1105F k (x.1,(x.2.1,x.2.2))) fun y1 =>
 some (decide (y1≥(0:Int)))
theorem f1054Ok (k:Nat):FnV P 154 [.dat (.slice Y1),.agg Y1] [.dat .bool] (f1054F k) :=
 fs tm (f1054T k) Tryz.func154 (by kernel_rfl) SumsOk.nil none fun _=>by kernel_rfl
noncomputable def f1053v0I:Shape:=⟨[(0,.agg [.int .i64,.bool]),(1,.one (.ptr 0 0))],[(0,.var 122 [.own 1]),(1,.row 233 Y1 .plain)],2,[]⟩
noncomputable def f1053v0U:Shape:=⟨[(0,.one (.bool))],[(0,.var 122 [.own 1]),(1,.row 233 Y1 .plain)],2,[]⟩
noncomputable def f1053v0T (k:Nat):TB P:=TB.nil |>.u (f1054Ok k)
noncomputable def f1053v0F (k:Nat)(x:D21):Option (D20) :=
 Option.bind (f1054F k (x.2.2.1,(x.1,(!x.2.1)))) fun y1 =>
 some (y1,x.2.2.1,())
theorem f1053v0Ok (k:Nat):GnV P 153 f1053v0I f1053v0U (f1053v0F k) :=
 gs tm (f1053v0T k) Tryz.func153 (by kernel_rfl) SumsOk.nil [.dat .bool] [] none fun _=>by kernel_rfl
noncomputable def f1104v0I:Shape:=⟨[(0,.one (.own 0)),(1,.one (.fn 153 [1]))],[(0,.row 233 Y1 .plain),(1,.var 122 [.own 0])],2,[]⟩
noncomputable def f1104v0U:Shape:=⟨[(0,.one (.int .i64))],[(0,.row 233 Y1 .plain),(1,.var 122 [.own 0])],2,[]⟩
noncomputable def f1104v0T (k:Nat):TB P:=TB.nil |>.g (f1053v0Ok k)
noncomputable def f1104v0l0s {R:Type}(k:Nat)(rec:D23->Option R)(k0:D22->Option R)(k1:D14->Option R)(v:D23):Option R :=
 bif (decide (v.2.1<v.1)) then
  bif ((decide ((0:Int)<=v.2.1))&&(decide (v.2.1<(v.2.2.1.length:Int)))) then
  Option.bind (f1053v0F k ((v.2.2.1.getD (Int.toNat v.2.1) ((0:Int),false)).1,(v.2.2.1.getD (Int.toNat v.2.1) ((0:Int),false)).2,v.2.2.1,())) fun y1 =>
  bif y1.1 then
   k0 (v.2.1,y1.2.1,())
  else
  rec (v.1,(IntKind.i64.wrap (v.2.1+(1:Int))),y1.2.1,())
  else none
 else
 k1 (v.2.2.1,())
noncomputable def f1104v0l0 {R:Type}(k:Nat)(k0:D22->Option R)(k1:D14->Option R)(v:D23):Option R:=iterS (fun rec v=>f1104v0l0s k rec k0 k1 v) k v
noncomputable def f1104v0l0S (k:Nat):=loopSum ⟨[(0,.one (.own 0)),(1,.one (.fn 153 [1])),(7,.one (.int .i64)),(8,.one (.int .i64))],[(0,.row 233 Y1 .plain),(1,.var 122 [.own 0])],2,[some 0,some 1]⟩ ⟨[0,1,7,8],[],[]⟩ k fun R rec K v=>f1104v0l0s k rec (fun w=>K .ret (encSt ⟨[(4,.one (.int .i64))],[(0,.row 233 Y1 .plain),(1,.var 122 [.own 0])],2,[some 0,some 1]⟩ w)) (fun w=>K (.exit 0) (encSt ⟨[],[(0,.row 233 Y1 .plain),(1,.var 122 [.own 0])],2,[some 0,some 1]⟩ w)) v
theorem f1104v0l0O (k:Nat):SumO P Tryz.f204 26 (f1104v0l0S k):=lp tm (f1104v0T k) ⟨[4],[],[]⟩ SumsOk.nil (by kernel_rfl) fun _ _ _ _=>by kernel_rfl
noncomputable def f1104v0F (k:Nat)(x:D14):Option (D22) :=
 f1104v0l0 k
  (fun (w2:D22) =>
   some (w2.1,w2.2.1,()))
  (fun (w3:D14) =>
   some ((-1:Int),w3.1,()))
  ((x.1.length:Int),(0:Int),x.1,())
theorem f1104v0Ok (k:Nat):GnV P 204 f1104v0I f1104v0U (f1104v0F k) :=
 gs tm (f1104v0T k) Tryz.func204 (by kernel_rfl) (SumsOk.nil |>.s (f1104v0l0O k) (by kernel_rfl)) [.dat .bool] [] none fun _=>by kernel_rfl
noncomputable def f1052v0I:Shape:=⟨[(0,.one (.own 0)),(1,.one (.fn 153 [1]))],[(0,.row 233 Y1 .plain),(1,.var 122 [.own 0])],2,[]⟩
noncomputable def f1052v0U:Shape:=⟨[(0,.one (.bool))],[(0,.row 233 Y1 .plain),(1,.var 122 [.own 0])],2,[]⟩
noncomputable def f1052v0T (k:Nat):TB P:=TB.nil |>.g (f1104v0Ok k)
noncomputable def f1052v0F (k:Nat)(x:D14):Option (D20) :=
 Option.bind (f1104v0F k (x.1,())) fun y1 =>
 some ((decide (y1.1≥(0:Int))),y1.2.1,())
theorem f1052v0Ok (k:Nat):GnV P 152 f1052v0I f1052v0U (f1052v0F k) :=
 gs tm (f1052v0T k) Tryz.func152 (by kernel_rfl) SumsOk.nil [.dat .bool] [] none fun _=>by kernel_rfl
noncomputable def f999T (k:Nat):TB P:=TB.nil |>.g (f1052v0Ok k) |>.u (f1051Ok k)
noncomputable def f999F (k:Nat)(x:D11×D11):Option (Bool) :=
 Option.bind (f1051F k [x.1.2.2.2.2.2.2.2,x.2.2.2.2.2.2.2.2]) fun y1 =>
 Option.bind (f1052v0F k (y1,())) fun y2 =>
 some (!y2.1)
theorem f999Ok (k:Nat):FnV P 99 [.agg (.pair .str Y5),.agg (.pair .str Y5)] [.dat .bool] (f999F k) :=
 fs tm (f999T k) Tryz.func99 (by kernel_rfl) SumsOk.nil none fun _=>by kernel_rfl
noncomputable def f1055T (k:Nat):TB P:=TB.nil |>.u (f969Ok k)
noncomputable def f1055F (k:Nat)(x:(Int×Bool)):Option (Bool) :=
 Option.bind (f969F k (x.1,(1:Int),(99:Int))) fun y1 =>
 some (!y1)
theorem f1055Ok (k:Nat):FnV P 155 [.agg Y1] [.dat .bool] (f1055F k) :=
 fs tm (f1055T k) Tryz.func155 (by kernel_rfl) SumsOk.nil none fun _=>by kernel_rfl
noncomputable def f1104v1I:Shape:=⟨[(0,.one (.ro Y1)),(1,.one (.fn 155 []))],[],0,[]⟩
noncomputable def f1104v1U:Shape:=⟨[(0,.one (.int .i64))],[],0,[]⟩
noncomputable def f1104v1T (k:Nat):TB P:=TB.nil |>.u (f1055Ok k)
noncomputable def f1104v1l0s {R:Type}(k:Nat)(rec:D24->Option R)(k0:Int×Unit->Option R)(k1:Unit->Option R)(v:D24):Option R :=
 bif (decide (v.2.2.1<v.2.1)) then
  bif ((decide ((0:Int)<=v.2.2.1))&&(decide (v.2.2.1<(v.1.length:Int)))) then
  Option.bind (f1055F k ((v.1.getD (Int.toNat v.2.2.1) ((0:Int),false)).1,(v.1.getD (Int.toNat v.2.2.1) ((0:Int),false)).2)) fun y1 =>
  bif y1 then
   k0 (v.2.2.1,())
  else
  rec (v.1,v.2.1,(IntKind.i64.wrap (v.2.2.1+(1:Int))),())
  else none
 else
 k1 (())
noncomputable def f1104v1l0 {R:Type}(k:Nat)(k0:Int×Unit->Option R)(k1:Unit->Option R)(v:D24):Option R:=iterS (fun rec v=>f1104v1l0s k rec k0 k1 v) k v
noncomputable def f1104v1l0S (k:Nat):=loopSum ⟨[(0,.one (.ro Y1)),(1,.one (.fn 155 [])),(7,.one (.int .i64)),(8,.one (.int .i64))],[],0,[]⟩ ⟨[0,1,7,8],[],[]⟩ k fun R rec K v=>f1104v1l0s k rec (fun w=>K .ret (encSt ⟨[(4,.one (.int .i64))],[],0,[]⟩ w)) (fun w=>K (.exit 0) (encSt ⟨[],[],0,[]⟩ w)) v
theorem f1104v1l0O (k:Nat):SumO P Tryz.f204 26 (f1104v1l0S k):=lp tm (f1104v1T k) ⟨[4],[],[]⟩ SumsOk.nil (by kernel_rfl) fun _ _ _ _=>by kernel_rfl
noncomputable def f1104v1F (k:Nat)(x:D14):Option (Int×Unit) :=
 f1104v1l0 k
  (fun (w2:Int×Unit) =>
   some (w2.1,()))
  (fun (w3:Unit) =>
   some ((-1:Int),()))
  (x.1,(x.1.length:Int),(0:Int),())
theorem f1104v1Ok (k:Nat):GnV P 204 f1104v1I f1104v1U (f1104v1F k) :=
 gs tm (f1104v1T k) Tryz.func204 (by kernel_rfl) (SumsOk.nil |>.s (f1104v1l0O k) (by kernel_rfl)) [.dat .bool] [] none fun _=>by kernel_rfl
noncomputable def f1052v1I:Shape:=⟨[(0,.one (.ro Y1)),(1,.one (.fn 155 []))],[],0,[]⟩
noncomputable def f1052v1U:Shape:=⟨[(0,.one (.bool))],[],0,[]⟩
noncomputable def f1052v1T (k:Nat):TB P:=TB.nil |>.g (f1104v1Ok k)
noncomputable def f1052v1F (k:Nat)(x:D14):Option (Bool×Unit) :=
 Option.bind (f1104v1F k (x.1,())) fun y1 =>
 some ((decide (y1.1≥(0:Int))),())
theorem f1052v1Ok (k:Nat):GnV P 152 f1052v1I f1052v1U (f1052v1F k) :=
 gs tm (f1052v1T k) Tryz.func152 (by kernel_rfl) SumsOk.nil [.dat .bool] [] none fun _=>by kernel_rfl
noncomputable def f1000T (k:Nat):TB P:=TB.nil |>.g (f1052v1Ok k) |>.u (f1050Ok k) |>.u (f969Ok k) |>.u (f968Ok k) |>.u (f966Ok k)
noncomputable def f1000F (k:Nat)(x:D11):Option (Int) :=
 Option.bind (f969F k (x.2.2.2.2.2.2.1,(0:Int),(15:Int))) fun y1 =>
 bif y1 then
  Option.bind (f969F k (x.2.1,(1:Int),(24:Int))) fun y2 =>
  bif y2 then
   Option.bind (f969F k (x.2.2.1,(2:Int),(80:Int))) fun y3 =>
   bif y3 then
    Option.bind (f1050F k (x.1,(x.2.1,(x.2.2.1,((x.2.2.2.1.1,(x.2.2.2.1.2.1,x.2.2.2.1.2.2)),(x.2.2.2.2.1,(x.2.2.2.2.2.1,(x.2.2.2.2.2.2.1,x.2.2.2.2.2.2.2)))))))) fun y4 =>
    let t5:=(decide ((IntKind.i64.wrap ((IntKind.i64.wrap (x.2.2.1+y4)) - (1:Int)))<=(80:Int)))
    Option.bind (f968F k ((!t5),(3:Int))) fun y6 =>
    Option.bind (f968F k ((decide ((x.2.2.2.2.2.2.2.length:Int) > (3:Int))),(2:Int))) fun y7 =>
    Option.bind (f1052v1F k (x.2.2.2.2.2.2.2,())) fun y8 =>
    Option.bind (f968F k (y8.1,(3:Int))) fun y9 =>
    Option.bind (f966F k [y6,y7,y9]) fun y10 =>
    some y10
   else
   Option.bind (f968F k (true,(3:Int))) fun y11 =>
   Option.bind (f968F k ((decide ((x.2.2.2.2.2.2.2.length:Int) > (3:Int))),(2:Int))) fun y12 =>
   Option.bind (f1052v1F k (x.2.2.2.2.2.2.2,())) fun y13 =>
   Option.bind (f968F k (y13.1,(3:Int))) fun y14 =>
   Option.bind (f966F k [y11,y12,y14]) fun y15 =>
   some y15
  else
  Option.bind (f968F k (true,(3:Int))) fun y16 =>
  Option.bind (f968F k ((decide ((x.2.2.2.2.2.2.2.length:Int) > (3:Int))),(2:Int))) fun y17 =>
  Option.bind (f1052v1F k (x.2.2.2.2.2.2.2,())) fun y18 =>
  Option.bind (f968F k (y18.1,(3:Int))) fun y19 =>
  Option.bind (f966F k [y16,y17,y19]) fun y20 =>
  some y20
 else
 Option.bind (f968F k (true,(3:Int))) fun y21 =>
 Option.bind (f968F k ((decide ((x.2.2.2.2.2.2.2.length:Int) > (3:Int))),(2:Int))) fun y22 =>
 Option.bind (f1052v1F k (x.2.2.2.2.2.2.2,())) fun y23 =>
 Option.bind (f968F k (y23.1,(3:Int))) fun y24 =>
 Option.bind (f966F k [y21,y22,y24]) fun y25 =>
 some y25
theorem f1000Ok (k:Nat):FnV P 100 [.agg (.pair .str Y5)] [.dat (.int .i64)] (f1000F k) :=
 fs tm (f1000T k) Tryz.func100 (by kernel_rfl) SumsOk.nil none fun _=>by kernel_rfl
noncomputable def f1058v0I:Shape:=⟨[(0,.agg [.int .i64,.int .i64,.bool]),(1,.one (.ptr 0 0))],[(0,.var 169 [.int .i64,.int .i64,.bool])],1,[]⟩
noncomputable def f1058v0U:Shape:=⟨[(0,.one (.bool))],[(0,.var 169 [.int .i64,.int .i64,.bool])],1,[]⟩
noncomputable def f1058v0F (k:Nat)(x:D26):Option (D25) :=
 some ((x.1==x.2.2.2.1),x.2.2.2.1,x.2.2.2.2.1,x.2.2.2.2.2.1,())
theorem f1058v0Ok (k:Nat):GnV P 158 f1058v0I f1058v0U (f1058v0F k) :=
 gs tm TB.nil Tryz.func158 (by kernel_rfl) SumsOk.nil [.dat .bool] [] none fun _=>by kernel_rfl
noncomputable def f1039v0I:Shape:=⟨[(0,.one (.ro (.pair (.int .i64) Y1))),(1,.one (.fn 158 [0]))],[(0,.var 169 [.int .i64,.int .i64,.bool])],1,[]⟩
noncomputable def f1039v0U:Shape:=⟨[(0,.one (.int .i64))],[(0,.var 169 [.int .i64,.int .i64,.bool])],1,[]⟩
noncomputable def f1039v0T (k:Nat):TB P:=TB.nil |>.g (f1058v0Ok k)
noncomputable def f1039v0l0s {R:Type}(k:Nat)(rec:D28->Option R)(k0:D27->Option R)(k1:Int×Int×Bool×Unit->Option R)(v:D28):Option R :=
 bif (decide (v.2.2.1<v.2.1)) then
  bif ((decide ((0:Int)<=v.2.2.1))&&(decide (v.2.2.1<(v.1.length:Int)))) then
  Option.bind (f1058v0F k ((v.1.getD (Int.toNat v.2.2.1) ((0:Int),((0:Int),false))).1,(v.1.getD (Int.toNat v.2.2.1) ((0:Int),((0:Int),false))).2.1,(v.1.getD (Int.toNat v.2.2.1) ((0:Int),((0:Int),false))).2.2,v.2.2.2.1,v.2.2.2.2.1,v.2.2.2.2.2.1,())) fun y1 =>
  bif y1.1 then
   k0 (v.2.2.1,y1.2.1,y1.2.2.1,y1.2.2.2.1,())
  else
  rec (v.1,v.2.1,(IntKind.i64.wrap (v.2.2.1+(1:Int))),y1.2.1,y1.2.2.1,y1.2.2.2.1,())
  else none
 else
 k1 (v.2.2.2.1,v.2.2.2.2.1,v.2.2.2.2.2.1,())
noncomputable def f1039v0l0 {R:Type}(k:Nat)(k0:D27->Option R)(k1:Int×Int×Bool×Unit->Option R)(v:D28):Option R:=iterS (fun rec v=>f1039v0l0s k rec k0 k1 v) k v
noncomputable def f1039v0l0S (k:Nat):=loopSum ⟨[(0,.one (.ro (.pair (.int .i64) Y1))),(1,.one (.fn 158 [0])),(7,.one (.int .i64)),(8,.one (.int .i64))],[(0,.var 169 [.int .i64,.int .i64,.bool])],1,[some 0]⟩ ⟨[0,1,7,8],[],[]⟩ k fun R rec K v=>f1039v0l0s k rec (fun w=>K .ret (encSt ⟨[(4,.one (.int .i64))],[(0,.var 169 [.int .i64,.int .i64,.bool])],1,[some 0]⟩ w)) (fun w=>K (.exit 0) (encSt ⟨[],[(0,.var 169 [.int .i64,.int .i64,.bool])],1,[some 0]⟩ w)) v
theorem f1039v0l0O (k:Nat):SumO P Tryz.f139 26 (f1039v0l0S k):=lp tm (f1039v0T k) ⟨[4],[],[]⟩ SumsOk.nil (by kernel_rfl) fun _ _ _ _=>by kernel_rfl
noncomputable def f1039v0F (k:Nat)(x:D29):Option (D27) :=
 f1039v0l0 k
  (fun (w2:D27) =>
   some (w2.1,w2.2.1,w2.2.2.1,w2.2.2.2.1,()))
  (fun (w3:Int×Int×Bool×Unit) =>
   some ((-1:Int),w3.1,w3.2.1,w3.2.2.1,()))
  (x.1,(x.1.length:Int),(0:Int),x.2.1,x.2.2.1,x.2.2.2.1,())
theorem f1039v0Ok (k:Nat):GnV P 139 f1039v0I f1039v0U (f1039v0F k) :=
 gs tm (f1039v0T k) Tryz.func139 (by kernel_rfl) (SumsOk.nil |>.s (f1039v0l0O k) (by kernel_rfl)) [.dat .bool] [] none fun _=>by kernel_rfl
noncomputable def f1057v0I:Shape:=⟨[(0,.one (.ro (.pair (.int .i64) Y1))),(1,.one (.fn 158 [0]))],[(0,.var 169 [.int .i64,.int .i64,.bool])],1,[]⟩
noncomputable def f1057v0U:Shape:=⟨[(0,.one (.bool))],[(0,.var 169 [.int .i64,.int .i64,.bool])],1,[]⟩
noncomputable def f1057v0T (k:Nat):TB P:=TB.nil |>.g (f1039v0Ok k)
noncomputable def f1057v0F (k:Nat)(x:D29):Option (D25) :=
 Option.bind (f1039v0F k (x.1,x.2.1,x.2.2.1,x.2.2.2.1,())) fun y1 =>
 some ((decide (y1.1≥(0:Int))),y1.2.1,y1.2.2.1,y1.2.2.2.1,())
theorem f1057v0Ok (k:Nat):GnV P 157 f1057v0I f1057v0U (f1057v0F k) :=
 gs tm (f1057v0T k) Tryz.func157 (by kernel_rfl) SumsOk.nil [.dat .bool] [] none fun _=>by kernel_rfl
noncomputable def f1002T (k:Nat):TB P:=TB.nil |>.g (f1057v0Ok k) |>.u (f969Ok k) |>.u (f968Ok k) |>.u (f966Ok k)
noncomputable def f1002F (k:Nat)(x:D30):Option (Int) :=
 Option.bind (f1057v0F k (x.2,x.1.1,x.1.2.1,x.1.2.2,())) fun y1 =>
 Option.bind (f969F k (y1.2.1,(1:Int),(24:Int))) fun y2 =>
 Option.bind (f968F k ((!y2),(3:Int))) fun y3 =>
 Option.bind (f968F k (y1.1,(13:Int))) fun y4 =>
 Option.bind (f969F k (y1.2.2.1,(0:Int),(99:Int))) fun y5 =>
 Option.bind (f968F k ((!y5),(3:Int))) fun y6 =>
 Option.bind (f966F k [y3,y4,y6]) fun y7 =>
 some y7
theorem f1002Ok (k:Nat):FnV P 102 [.agg (.pair (.int .i64) Y1),.dat (.slice (.pair (.int .i64) Y1))] [.dat (.int .i64)] (f1002F k) :=
 fs tm (f1002T k) Tryz.func102 (by kernel_rfl) SumsOk.nil none fun _=>by kernel_rfl
noncomputable def f997v0I:Shape:=⟨[(0,.agg [.str,.int .i64,.int .i64,.int .i64,.int .i64,.int .i64,.int .i64,.str,.int .i64,.ro Y1]),(1,.one (.ptr 0 0))],[(0,.var 124 [.str,.int .i64,.int .i64,.int .i64,.int .i64,.int .i64,.int .i64,.str,.int .i64,.ro Y1])],1,[]⟩
noncomputable def f997v0U:Shape:=⟨[(0,.one (.bool))],[(0,.var 124 [.str,.int .i64,.int .i64,.int .i64,.int .i64,.int .i64,.int .i64,.str,.int .i64,.ro Y1])],1,[]⟩
noncomputable def f997v0T (k:Nat):TB P:=TB.nil |>.u (f999Ok k) |>.u (f998Ok k)
noncomputable def f997v0F (k:Nat)(x:D32):Option (D31) :=
 Option.bind (f998F k ((x.2.2.2.2.2.2.2.2.2.2.1,(x.2.2.2.2.2.2.2.2.2.2.2.1,(x.2.2.2.2.2.2.2.2.2.2.2.2.1,((x.2.2.2.2.2.2.2.2.2.2.2.2.2.1,(x.2.2.2.2.2.2.2.2.2.2.2.2.2.2.1,x.2.2.2.2.2.2.2.2.2.2.2.2.2.2.2.1)),(x.2.2.2.2.2.2.2.2.2.2.2.2.2.2.2.2.1,(x.2.2.2.2.2.2.2.2.2.2.2.2.2.2.2.2.2.1,(x.2.2.2.2.2.2.2.2.2.2.2.2.2.2.2.2.2.2.1,x.2.2.2.2.2.2.2.2.2.2.2.2.2.2.2.2.2.2.2.1))))))),(x.1,(x.2.1,(x.2.2.1,((x.2.2.2.1,(x.2.2.2.2.1,x.2.2.2.2.2.1)),(x.2.2.2.2.2.2.1,(x.2.2.2.2.2.2.2.1,(x.2.2.2.2.2.2.2.2.1,x.2.2.2.2.2.2.2.2.2.1))))))))) fun y1 =>
 bif y1 then
  Option.bind (f999F k ((x.2.2.2.2.2.2.2.2.2.2.1,(x.2.2.2.2.2.2.2.2.2.2.2.1,(x.2.2.2.2.2.2.2.2.2.2.2.2.1,((x.2.2.2.2.2.2.2.2.2.2.2.2.2.1,(x.2.2.2.2.2.2.2.2.2.2.2.2.2.2.1,x.2.2.2.2.2.2.2.2.2.2.2.2.2.2.2.1)),(x.2.2.2.2.2.2.2.2.2.2.2.2.2.2.2.2.1,(x.2.2.2.2.2.2.2.2.2.2.2.2.2.2.2.2.2.1,(x.2.2.2.2.2.2.2.2.2.2.2.2.2.2.2.2.2.2.1,x.2.2.2.2.2.2.2.2.2.2.2.2.2.2.2.2.2.2.2.1))))))),(x.1,(x.2.1,(x.2.2.1,((x.2.2.2.1,(x.2.2.2.2.1,x.2.2.2.2.2.1)),(x.2.2.2.2.2.2.1,(x.2.2.2.2.2.2.2.1,(x.2.2.2.2.2.2.2.2.1,x.2.2.2.2.2.2.2.2.2.1))))))))) fun y2 =>
  some (y2,x.2.2.2.2.2.2.2.2.2.2.1,x.2.2.2.2.2.2.2.2.2.2.2.1,x.2.2.2.2.2.2.2.2.2.2.2.2.1,x.2.2.2.2.2.2.2.2.2.2.2.2.2.1,x.2.2.2.2.2.2.2.2.2.2.2.2.2.2.1,x.2.2.2.2.2.2.2.2.2.2.2.2.2.2.2.1,x.2.2.2.2.2.2.2.2.2.2.2.2.2.2.2.2.1,x.2.2.2.2.2.2.2.2.2.2.2.2.2.2.2.2.2.1,x.2.2.2.2.2.2.2.2.2.2.2.2.2.2.2.2.2.2.1,x.2.2.2.2.2.2.2.2.2.2.2.2.2.2.2.2.2.2.2.1,())
 else
 some (false,x.2.2.2.2.2.2.2.2.2.2.1,x.2.2.2.2.2.2.2.2.2.2.2.1,x.2.2.2.2.2.2.2.2.2.2.2.2.1,x.2.2.2.2.2.2.2.2.2.2.2.2.2.1,x.2.2.2.2.2.2.2.2.2.2.2.2.2.2.1,x.2.2.2.2.2.2.2.2.2.2.2.2.2.2.2.1,x.2.2.2.2.2.2.2.2.2.2.2.2.2.2.2.2.1,x.2.2.2.2.2.2.2.2.2.2.2.2.2.2.2.2.2.1,x.2.2.2.2.2.2.2.2.2.2.2.2.2.2.2.2.2.2.1,x.2.2.2.2.2.2.2.2.2.2.2.2.2.2.2.2.2.2.2.1,())
theorem f997v0Ok (k:Nat):GnV P 97 f997v0I f997v0U (f997v0F k) :=
 gs tm (f997v0T k) Tryz.func97 (by kernel_rfl) SumsOk.nil [.dat .bool] [] none fun _=>by kernel_rfl
noncomputable def f1056v0I:Shape:=⟨[(0,.one (.ro (.pair .str Y5))),(1,.one (.fn 97 [0]))],[(0,.var 124 [.str,.int .i64,.int .i64,.int .i64,.int .i64,.int .i64,.int .i64,.str,.int .i64,.ro Y1])],1,[]⟩
noncomputable def f1056v0U:Shape:=⟨[(0,.one (.int .i64))],[(0,.var 124 [.str,.int .i64,.int .i64,.int .i64,.int .i64,.int .i64,.int .i64,.str,.int .i64,.ro Y1])],1,[]⟩
noncomputable def f1056v0T (k:Nat):TB P:=TB.nil |>.g (f997v0Ok k)
noncomputable def f1056v0l0s {R:Type}(k:Nat)(rec:D35->Option R)(k0:D33->Option R)(k1:D34->Option R)(v:D35):Option R :=
 bif (decide (v.2.2.1<v.2.1)) then
  bif ((decide ((0:Int)<=v.2.2.1))&&(decide (v.2.2.1<(v.1.length:Int)))) then
  let t1:=(v.1.getD (Int.toNat v.2.2.1) (ByteArray.empty,((0:Int),((0:Int),(((0:Int),((0:Int),(0:Int))),((0:Int),(ByteArray.empty,((0:Int),[]))))))))
  Option.bind (f997v0F k (t1.1,t1.2.1,t1.2.2.1,t1.2.2.2.1.1,t1.2.2.2.1.2.1,t1.2.2.2.1.2.2,t1.2.2.2.2.1,t1.2.2.2.2.2.1,t1.2.2.2.2.2.2.1,t1.2.2.2.2.2.2.2,v.2.2.2.1,v.2.2.2.2.1,v.2.2.2.2.2.1,v.2.2.2.2.2.2.1,v.2.2.2.2.2.2.2.1,v.2.2.2.2.2.2.2.2.1,v.2.2.2.2.2.2.2.2.2.1,v.2.2.2.2.2.2.2.2.2.2.1,v.2.2.2.2.2.2.2.2.2.2.2.1,v.2.2.2.2.2.2.2.2.2.2.2.2.1,())) fun y2 =>
  bif y2.1 then
   k0 (v.2.2.1,y2.2.1,y2.2.2.1,y2.2.2.2.1,y2.2.2.2.2.1,y2.2.2.2.2.2.1,y2.2.2.2.2.2.2.1,y2.2.2.2.2.2.2.2.1,y2.2.2.2.2.2.2.2.2.1,y2.2.2.2.2.2.2.2.2.2.1,y2.2.2.2.2.2.2.2.2.2.2.1,())
  else
  rec (v.1,v.2.1,(IntKind.i64.wrap (v.2.2.1+(1:Int))),y2.2.1,y2.2.2.1,y2.2.2.2.1,y2.2.2.2.2.1,y2.2.2.2.2.2.1,y2.2.2.2.2.2.2.1,y2.2.2.2.2.2.2.2.1,y2.2.2.2.2.2.2.2.2.1,y2.2.2.2.2.2.2.2.2.2.1,y2.2.2.2.2.2.2.2.2.2.2.1,())
  else none
 else
 k1 (v.2.2.2.1,v.2.2.2.2.1,v.2.2.2.2.2.1,v.2.2.2.2.2.2.1,v.2.2.2.2.2.2.2.1,v.2.2.2.2.2.2.2.2.1,v.2.2.2.2.2.2.2.2.2.1,v.2.2.2.2.2.2.2.2.2.2.1,v.2.2.2.2.2.2.2.2.2.2.2.1,v.2.2.2.2.2.2.2.2.2.2.2.2.1,())
noncomputable def f1056v0l0 {R:Type}(k:Nat)(k0:D33->Option R)(k1:D34->Option R)(v:D35):Option R:=iterS (fun rec v=>f1056v0l0s k rec k0 k1 v) k v
noncomputable def f1056v0l0S (k:Nat):=loopSum ⟨[(0,.one (.ro (.pair .str Y5))),(1,.one (.fn 97 [0])),(7,.one (.int .i64)),(8,.one (.int .i64))],[(0,.var 124 [.str,.int .i64,.int .i64,.int .i64,.int .i64,.int .i64,.int .i64,.str,.int .i64,.ro Y1])],1,[some 0]⟩ ⟨[0,1,7,8],[],[]⟩ k fun R rec K v=>f1056v0l0s k rec (fun w=>K .ret (encSt ⟨[(4,.one (.int .i64))],[(0,.var 124 [.str,.int .i64,.int .i64,.int .i64,.int .i64,.int .i64,.int .i64,.str,.int .i64,.ro Y1])],1,[some 0]⟩ w)) (fun w=>K (.exit 0) (encSt ⟨[],[(0,.var 124 [.str,.int .i64,.int .i64,.int .i64,.int .i64,.int .i64,.int .i64,.str,.int .i64,.ro Y1])],1,[some 0]⟩ w)) v
theorem f1056v0l0O (k:Nat):SumO P Tryz.f156 26 (f1056v0l0S k):=lp tm (f1056v0T k) ⟨[4],[],[]⟩ SumsOk.nil (by kernel_rfl) fun _ _ _ _=>by kernel_rfl
noncomputable def f1056v0F (k:Nat)(x:D36):Option (D33) :=
 f1056v0l0 k
  (fun (w3:D33) =>
   some (w3.1,w3.2.1,w3.2.2.1,w3.2.2.2.1,w3.2.2.2.2.1,w3.2.2.2.2.2.1,w3.2.2.2.2.2.2.1,w3.2.2.2.2.2.2.2.1,w3.2.2.2.2.2.2.2.2.1,w3.2.2.2.2.2.2.2.2.2.1,w3.2.2.2.2.2.2.2.2.2.2.1,()))
  (fun (w4:D34) =>
   some ((-1:Int),w4.1,w4.2.1,w4.2.2.1,w4.2.2.2.1,w4.2.2.2.2.1,w4.2.2.2.2.2.1,w4.2.2.2.2.2.2.1,w4.2.2.2.2.2.2.2.1,w4.2.2.2.2.2.2.2.2.1,w4.2.2.2.2.2.2.2.2.2.1,()))
  (x.1,(x.1.length:Int),(0:Int),x.2.1,x.2.2.1,x.2.2.2.1,x.2.2.2.2.1,x.2.2.2.2.2.1,x.2.2.2.2.2.2.1,x.2.2.2.2.2.2.2.1,x.2.2.2.2.2.2.2.2.1,x.2.2.2.2.2.2.2.2.2.1,x.2.2.2.2.2.2.2.2.2.2.1,())
theorem f1056v0Ok (k:Nat):GnV P 156 f1056v0I f1056v0U (f1056v0F k) :=
 gs tm (f1056v0T k) Tryz.func156 (by kernel_rfl) (SumsOk.nil |>.s (f1056v0l0O k) (by kernel_rfl)) [.dat .bool] [] none fun _=>by kernel_rfl
noncomputable def f1001v0I:Shape:=⟨[(0,.one (.ro (.pair .str Y5))),(1,.one (.fn 97 [0]))],[(0,.var 124 [.str,.int .i64,.int .i64,.int .i64,.int .i64,.int .i64,.int .i64,.str,.int .i64,.ro Y1])],1,[]⟩
noncomputable def f1001v0U:Shape:=⟨[(0,.one (.bool))],[(0,.var 124 [.str,.int .i64,.int .i64,.int .i64,.int .i64,.int .i64,.int .i64,.str,.int .i64,.ro Y1])],1,[]⟩
noncomputable def f1001v0T (k:Nat):TB P:=TB.nil |>.g (f1056v0Ok k)
noncomputable def f1001v0F (k:Nat)(x:D36):Option (D31) :=
 Option.bind (f1056v0F k (x.1,x.2.1,x.2.2.1,x.2.2.2.1,x.2.2.2.2.1,x.2.2.2.2.2.1,x.2.2.2.2.2.2.1,x.2.2.2.2.2.2.2.1,x.2.2.2.2.2.2.2.2.1,x.2.2.2.2.2.2.2.2.2.1,x.2.2.2.2.2.2.2.2.2.2.1,())) fun y1 =>
 some ((decide (y1.1≥(0:Int))),y1.2.1,y1.2.2.1,y1.2.2.2.1,y1.2.2.2.2.1,y1.2.2.2.2.2.1,y1.2.2.2.2.2.2.1,y1.2.2.2.2.2.2.2.1,y1.2.2.2.2.2.2.2.2.1,y1.2.2.2.2.2.2.2.2.2.1,y1.2.2.2.2.2.2.2.2.2.2.1,())
theorem f1001v0Ok (k:Nat):GnV P 101 f1001v0I f1001v0U (f1001v0F k) :=
 gs tm (f1001v0T k) Tryz.func101 (by kernel_rfl) SumsOk.nil [.dat .bool] [] none fun _=>by kernel_rfl
noncomputable def f933T (k:Nat):TB P:=TB.nil |>.u (f1002Ok k) |>.g (f1001v0Ok k) |>.u (f1000Ok k) |>.u (f996Ok k) |>.u (f995Ok k) |>.u (f969Ok k) |>.u (f968Ok k) |>.u (f966Ok k)
noncomputable def f933p0 {R:Type}(k:Nat)(k0:D40->Option R)(v:D40):Option R :=
 Option.bind (f996F k ((v.2.2.2.2.2.2.2.2.2.1,(v.2.2.2.2.2.2.2.2.2.2.1,(v.2.2.2.2.2.2.2.2.2.2.2.1,((v.2.2.2.2.2.2.2.2.2.2.2.2.1,(v.2.2.2.2.2.2.2.2.2.2.2.2.2.1,v.2.2.2.2.2.2.2.2.2.2.2.2.2.2.1)),(v.2.2.2.2.2.2.2.2.2.2.2.2.2.2.2.1,(v.2.2.2.2.2.2.2.2.2.2.2.2.2.2.2.2.1,(v.2.2.2.2.2.2.2.2.2.2.2.2.2.2.2.2.2.1,v.2.2.2.2.2.2.2.2.2.2.2.2.2.2.2.2.2.2.1))))))),v.2.2.2.2.2.2.2.2.1)) fun y10 =>
 Option.bind (f966F k [v.2.1,y10]) fun y11 =>
 bif (y11==(0:Int)) then
  Option.bind (f1000F k (v.2.2.2.2.2.2.2.2.2.1,(v.2.2.2.2.2.2.2.2.2.2.1,(v.2.2.2.2.2.2.2.2.2.2.2.1,((v.2.2.2.2.2.2.2.2.2.2.2.2.1,(v.2.2.2.2.2.2.2.2.2.2.2.2.2.1,v.2.2.2.2.2.2.2.2.2.2.2.2.2.2.1)),(v.2.2.2.2.2.2.2.2.2.2.2.2.2.2.2.1,(v.2.2.2.2.2.2.2.2.2.2.2.2.2.2.2.2.1,(v.2.2.2.2.2.2.2.2.2.2.2.2.2.2.2.2.2.1,v.2.2.2.2.2.2.2.2.2.2.2.2.2.2.2.2.2.2.1)))))))) fun y12 =>
  bif (sliceBds (0:Int) v.1 (v.2.2.2.2.2.2.1.length:Int)) then
  Option.bind (f1001v0F k (((v.2.2.2.2.2.2.1.take (Int.toNat v.1)).drop 0),v.2.2.2.2.2.2.2.2.2.1,v.2.2.2.2.2.2.2.2.2.2.1,v.2.2.2.2.2.2.2.2.2.2.2.1,v.2.2.2.2.2.2.2.2.2.2.2.2.1,v.2.2.2.2.2.2.2.2.2.2.2.2.2.1,v.2.2.2.2.2.2.2.2.2.2.2.2.2.2.1,v.2.2.2.2.2.2.2.2.2.2.2.2.2.2.2.1,v.2.2.2.2.2.2.2.2.2.2.2.2.2.2.2.2.1,v.2.2.2.2.2.2.2.2.2.2.2.2.2.2.2.2.2.1,v.2.2.2.2.2.2.2.2.2.2.2.2.2.2.2.2.2.2.1,())) fun y13 =>
  Option.bind (f968F k (y13.1,(15:Int))) fun y14 =>
  Option.bind (f966F k [y12,y14]) fun y15 =>
  k0 (v.1,y15,v.2.2.1,v.2.2.2.1,v.2.2.2.2.1,v.2.2.2.2.2.1,v.2.2.2.2.2.2.1,v.2.2.2.2.2.2.2.1,v.2.2.2.2.2.2.2.2.1,y13.2.1,y13.2.2.1,y13.2.2.2.1,y13.2.2.2.2.1,y13.2.2.2.2.2.1,y13.2.2.2.2.2.2.1,y13.2.2.2.2.2.2.2.1,y13.2.2.2.2.2.2.2.2.1,y13.2.2.2.2.2.2.2.2.2.1,y13.2.2.2.2.2.2.2.2.2.2.1,())
  else none
 else
 k0 (v.1,y11,v.2.2.1,v.2.2.2.1,v.2.2.2.2.1,v.2.2.2.2.2.1,v.2.2.2.2.2.2.1,v.2.2.2.2.2.2.2.1,v.2.2.2.2.2.2.2.2.1,v.2.2.2.2.2.2.2.2.2.1,v.2.2.2.2.2.2.2.2.2.2.1,v.2.2.2.2.2.2.2.2.2.2.2.1,v.2.2.2.2.2.2.2.2.2.2.2.2.1,v.2.2.2.2.2.2.2.2.2.2.2.2.2.1,v.2.2.2.2.2.2.2.2.2.2.2.2.2.2.1,v.2.2.2.2.2.2.2.2.2.2.2.2.2.2.2.1,v.2.2.2.2.2.2.2.2.2.2.2.2.2.2.2.2.1,v.2.2.2.2.2.2.2.2.2.2.2.2.2.2.2.2.2.1,v.2.2.2.2.2.2.2.2.2.2.2.2.2.2.2.2.2.2.1,())
noncomputable def f933p0S (k:Nat):=partSum ⟨[(1,.one (.ptr 0 0)),(5,.one (.own 1)),(6,.one (.int .i64)),(7,.one (.ptr 2 0)),(8,.one (.int .i64)),(39,.one (.ro (.pair .str Y5))),(40,.one (.int .i64)),(41,.one (.int .i64))],[(0,.var 25 [.str,.ro (.pair .str Y5),.ro (.pair (.int .i64) Y1)]),(1,.row 9 .str .plain),(2,.var 124 [.str,.int .i64,.int .i64,.int .i64,.int .i64,.int .i64,.int .i64,.str,.int .i64,.ro Y1])],3,[]⟩ ⟨[1,5,6,7,8,39,40,41],[],[]⟩ fun R K v=>f933p0 k (fun w=>K .normal (encSt ⟨[(1,.one (.ptr 0 0)),(5,.one (.own 1)),(6,.one (.int .i64)),(7,.one (.ptr 2 0)),(8,.one (.int .i64)),(39,.one (.ro (.pair .str Y5))),(40,.one (.int .i64)),(41,.one (.int .i64))],[(0,.var 25 [.str,.ro (.pair .str Y5),.ro (.pair (.int .i64) Y1)]),(1,.row 9 .str .plain),(2,.var 124 [.str,.int .i64,.int .i64,.int .i64,.int .i64,.int .i64,.int .i64,.str,.int .i64,.ro Y1])],3,[]⟩ w)) v
theorem f933p0O (k:Nat):SumO P Tryz.f33 31334 (f933p0S k):=pt tm (f933T k) ⟨[1,2,3,5,6,7,8,39,40,41],[],[]⟩ SumsOk.nil fun _ _ _=>by kernel_rfl
noncomputable def f933p1 {R:Type}(k:Nat)(k0:D41->Option R)(k1:D39->Option R)(v:D39):Option R :=
 bif ((decide ((0:Int)<=v.2.2.1))&&(decide (v.2.2.1<(v.1.length:Int)))) then
 let t7:=(v.1.getD (Int.toNat v.2.2.1) (ByteArray.empty,((0:Int),((0:Int),(((0:Int),((0:Int),(0:Int))),((0:Int),(ByteArray.empty,((0:Int),[]))))))))
 Option.bind (f969F k (t7.2.2.2.2.1,(0:Int),(3:Int))) fun y8 =>
 Option.bind (f968F k ((!y8),(4:Int))) fun y9 =>
 f933p0 k
  (fun (w16:D40) =>
   bif (w16.2.1 !=(0:Int)) then
    k0 (w16.1,w16.2.1,w16.2.2.1,w16.2.2.2.1,w16.2.2.2.2.1,w16.2.2.2.2.2.1,w16.2.2.2.2.2.2.1,w16.2.2.2.2.2.2.2.1,w16.2.2.2.2.2.2.2.2.1,())
   else
   bif (w16.2.2.2.2.2.2.2.2.2.2.2.2.2.2.2.1 !=(0:Int)) then
    bif (decide ((w16.2.2.2.2.2.2.2.2.1.length+[w16.2.2.2.2.2.2.2.2.2.1].length)*16<=140737488355328)&&decide (w16.2.2.2.2.2.2.2.2.1.length+[w16.2.2.2.2.2.2.2.2.2.1].length<=9223372036854775807)) then
    k1 (w16.2.2.1,w16.2.2.2.1,w16.2.2.2.2.1,w16.2.2.2.2.2.1,w16.2.2.2.2.2.2.1,w16.2.2.2.2.2.2.2.1,(w16.2.2.2.2.2.2.2.2.1++[w16.2.2.2.2.2.2.2.2.2.1]),())
    else none
   else
   k1 (w16.2.2.1,w16.2.2.2.1,w16.2.2.2.2.1,w16.2.2.2.2.2.1,w16.2.2.2.2.2.2.1,w16.2.2.2.2.2.2.2.1,w16.2.2.2.2.2.2.2.2.1,()))
  (v.2.2.1,y9,v.1,v.2.1,v.2.2.1,v.2.2.2.1,v.2.2.2.2.1,v.2.2.2.2.2.1,v.2.2.2.2.2.2.1,t7.1,t7.2.1,t7.2.2.1,t7.2.2.2.1.1,t7.2.2.2.1.2.1,t7.2.2.2.1.2.2,t7.2.2.2.2.1,t7.2.2.2.2.2.1,t7.2.2.2.2.2.2.1,t7.2.2.2.2.2.2.2,())
 else none
noncomputable def f933p1S (k:Nat):=partSum ⟨[(1,.one (.ptr 0 0)),(5,.one (.own 1)),(39,.one (.ro (.pair .str Y5))),(40,.one (.int .i64)),(41,.one (.int .i64))],[(0,.var 25 [.str,.ro (.pair .str Y5),.ro (.pair (.int .i64) Y1)]),(1,.row 9 .str .plain)],2,[]⟩ ⟨[1,5,39,40,41],[],[]⟩ fun R K v=>f933p1 k (fun w=>K .ret (encSt ⟨[(1,.one (.ptr 0 0)),(2,.one (.int .i64)),(3,.one (.int .i64)),(5,.one (.own 1)),(39,.one (.ro (.pair .str Y5))),(40,.one (.int .i64)),(41,.one (.int .i64))],[(0,.var 25 [.str,.ro (.pair .str Y5),.ro (.pair (.int .i64) Y1)]),(1,.row 9 .str .plain)],2,[]⟩ w)) (fun w=>K .normal (encSt ⟨[(1,.one (.ptr 0 0)),(5,.one (.own 1)),(39,.one (.ro (.pair .str Y5))),(40,.one (.int .i64)),(41,.one (.int .i64))],[(0,.var 25 [.str,.ro (.pair .str Y5),.ro (.pair (.int .i64) Y1)]),(1,.row 9 .str .plain)],2,[]⟩ w)) v
theorem f933p1O (k:Nat):SumO P Tryz.f33 1958 (f933p1S k):=pt tm (f933T k) ⟨[1,2,3,5,39,40,41],[],[]⟩ (SumsOk.nil |>.s (f933p0O k) (by kernel_rfl)) fun _ _ _=>by kernel_rfl
noncomputable def f933l2s {R:Type}(k:Nat)(rec:D39->Option R)(k0:D42->Option R)(k1:D43->Option R)(v:D39):Option R :=
 bif (decide (v.2.2.1<v.2.1)) then
  f933p1 k
   (fun (w17:D41) =>
    k0 (w17.1,w17.2.1,w17.2.2.2.2.2.1,w17.2.2.2.2.2.2.1,w17.2.2.2.2.2.2.2.1,()))
   (fun (w18:D39) =>
    rec (w18.1,w18.2.1,(IntKind.i64.wrap (w18.2.2.1+(1:Int))),w18.2.2.2.1,w18.2.2.2.2.1,w18.2.2.2.2.2.1,w18.2.2.2.2.2.2.1,()))
   (v.1,v.2.1,v.2.2.1,v.2.2.2.1,v.2.2.2.2.1,v.2.2.2.2.2.1,v.2.2.2.2.2.2.1,())
 else
 k1 (v.2.2.2.1,v.2.2.2.2.1,v.2.2.2.2.2.1,())
noncomputable def f933l2 {R:Type}(k:Nat)(k0:D42->Option R)(k1:D43->Option R)(v:D39):Option R:=iterS (fun rec v=>f933l2s k rec k0 k1 v) k v
noncomputable def f933l2S (k:Nat):=loopSum ⟨[(1,.one (.ptr 0 0)),(5,.one (.own 1)),(39,.one (.ro (.pair .str Y5))),(40,.one (.int .i64)),(41,.one (.int .i64))],[(0,.var 25 [.str,.ro (.pair .str Y5),.ro (.pair (.int .i64) Y1)]),(1,.row 9 .str .plain)],2,[]⟩ ⟨[1,5,39,40,41],[(5,9,.str)],[]⟩ k fun R rec K v=>f933l2s k rec (fun w=>K .ret (encSt ⟨[(1,.one (.ptr 0 0)),(2,.one (.int .i64)),(3,.one (.int .i64))],[(0,.var 25 [.str,.ro (.pair .str Y5),.ro (.pair (.int .i64) Y1)])],1,[]⟩ w)) (fun w=>K (.exit 0) (encSt ⟨[(1,.one (.ptr 0 0))],[(0,.var 25 [.str,.ro (.pair .str Y5),.ro (.pair (.int .i64) Y1)])],1,[]⟩ w)) v
theorem f933l2O (k:Nat):SumO P Tryz.f33 122 (f933l2S k):=lp tm (f933T k) ⟨[1,2,3],[],[]⟩ (SumsOk.nil |>.s (f933p1O k) (by kernel_rfl) |>.s (f933p0O k) (by kernel_rfl)) (by kernel_rfl) fun _ _ _ _=>by kernel_rfl
noncomputable def f933l3s {R:Type}(k:Nat)(rec:D44->Option R)(k0:Int×Int×Unit->Option R)(k1:Unit->Option R)(v:D44):Option R :=
 bif (decide (v.2.2.1<v.2.1)) then
  bif ((decide ((0:Int)<=v.2.2.1))&&(decide (v.2.2.1<(v.1.length:Int)))) then
  bif (sliceBds (0:Int) v.2.2.1 (v.2.2.2.2.2.1.length:Int)) then
  Option.bind (f1002F k (((v.1.getD (Int.toNat v.2.2.1) ((0:Int),((0:Int),false))).1,((v.1.getD (Int.toNat v.2.2.1) ((0:Int),((0:Int),false))).2.1,(v.1.getD (Int.toNat v.2.2.1) ((0:Int),((0:Int),false))).2.2)),((v.2.2.2.2.2.1.take (Int.toNat v.2.2.1)).drop 0))) fun y21 =>
  bif (y21 !=(0:Int)) then
   k0 (v.2.2.1,y21,())
  else
  rec (v.1,v.2.1,(IntKind.i64.wrap (v.2.2.1+(1:Int))),v.2.2.2.1,v.2.2.2.2.1,v.2.2.2.2.2.1,())
  else none
  else none
 else
 k1 (())
noncomputable def f933l3 {R:Type}(k:Nat)(k0:Int×Int×Unit->Option R)(k1:Unit->Option R)(v:D44):Option R:=iterS (fun rec v=>f933l3s k rec k0 k1 v) k v
noncomputable def f933l3S (k:Nat):=loopSum ⟨[(1,.one (.ptr 0 0)),(85,.one (.ro (.pair (.int .i64) Y1))),(86,.one (.int .i64)),(87,.one (.int .i64))],[(0,.var 25 [.str,.ro (.pair .str Y5),.ro (.pair (.int .i64) Y1)])],1,[]⟩ ⟨[1,85,86,87],[],[]⟩ k fun R rec K v=>f933l3s k rec (fun w=>K .ret (encSt ⟨[(2,.one (.int .i64)),(3,.one (.int .i64))],[],0,[]⟩ w)) (fun w=>K (.exit 2) (encSt ⟨[],[],0,[]⟩ w)) v
theorem f933l3O (k:Nat):SumO P Tryz.f33 250 (f933l3S k):=lp tm (f933T k) ⟨[2,3],[],[]⟩ SumsOk.nil (by kernel_rfl) fun _ _ _ _=>by kernel_rfl
noncomputable def f933F (k:Nat)(x:(ByteArray×D45)):Option (Int×Int) :=
 Option.bind (f995F k x.1) fun y1 =>
 Option.bind (f968F k ((!y1),(7:Int))) fun y2 =>
 Option.bind (f968F k (((x.2.1.length:Int)==(0:Int)),(1:Int))) fun y3 =>
 Option.bind (f968F k ((decide ((x.2.1.length:Int) > (30:Int))),(2:Int))) fun y4 =>
 Option.bind (f968F k ((decide ((x.2.2.length:Int) > (10:Int))),(2:Int))) fun y5 =>
 Option.bind (f966F k [y2,y3,y4,y5]) fun y6 =>
 bif (y6 !=(0:Int)) then
  some ((0:Int),y6)
 else
 f933l2 k
  (fun (w19:D42) =>
   some (w19.1,w19.2.1))
  (fun (w20:D43) =>
   f933l3 k
    (fun (w22:Int×Int×Unit) =>
     some (w22.1,w22.2.1))
    (fun (w23:Unit) =>
     some ((0:Int),(0:Int)))
    (w20.2.2.1,(w20.2.2.1.length:Int),(0:Int),w20.1,w20.2.1,w20.2.2.1,()))
  (x.2.1,(x.2.1.length:Int),(0:Int),x.1,x.2.1,x.2.2,[],())
theorem f933Ok (k:Nat):FnV P 33 [.agg (.pair .str Y6)] [.dat (.int .i64),.dat (.int .i64)] (f933F k) :=
 fs tm (f933T k) Tryz.func33 (by kernel_rfl) (SumsOk.nil |>.s (f933l3O k) (by kernel_rfl) |>.s (f933l2O k) (by kernel_rfl) |>.s (f933p1O k) (by kernel_rfl) |>.s (f933p0O k) (by kernel_rfl)) none fun _=>by kernel_rfl
noncomputable def f967T (k:Nat):TB P:=TB.nil |>.u (f933Ok k)
noncomputable def f967F (k:Nat)(x:(ByteArray×D45)):Option (Int) :=
 Option.bind (f933F k (x.1,(x.2.1,x.2.2))) fun y1 =>
 some y1.2
theorem f967Ok (k:Nat):FnV P 67 [.agg (.pair .str Y6)] [.dat (.int .i64)] (f967F k) :=
 fs tm (f967T k) Tryz.func67 (by kernel_rfl) SumsOk.nil none fun _=>by kernel_rfl
noncomputable def f71l0s {R:Type}(k:Nat)(rec:Int×Int×Int×Unit->Option R)(k0:Int×Unit->Option R)(v:Int×Int×Int×Unit):Option R :=
 bif (decide (v.2.2.1<v.2.1)) then
  rec ((IntKind.i64.wrap (v.1*(10:Int))),v.2.1,(IntKind.i64.wrap (v.2.2.1+(1:Int))),())
 else
 k0 (v.1,())
noncomputable def f71l0 {R:Type}(k:Nat)(k0:Int×Unit->Option R)(v:Int×Int×Int×Unit):Option R:=iterS (fun rec v=>f71l0s k rec k0 v) k v
noncomputable def f71l0S (k:Nat):=loopSum ⟨[(3,.one (.int .i64)),(5,.one (.int .i64)),(6,.one (.int .i64))],[],0,[]⟩ ⟨[3,5,6],[],[]⟩ k fun R rec K v=>f71l0s k rec (fun w=>K (.exit 0) (encSt ⟨[(3,.one (.int .i64))],[],0,[]⟩ w)) v
theorem f71l0O (k:Nat):SumO P Tryz.f186 58 (f71l0S k):=lp tm TB.nil ⟨[2,3],[],[]⟩ SumsOk.nil (by kernel_rfl) fun _ _ _ _=>by kernel_rfl
noncomputable def f71F (k:Nat)(x:Int):Option (Int) :=
 f71l0 k
  (fun (w1:Int×Unit) =>
   some w1.1)
  ((1:Int),(mnI x (18:Int)),(0:Int),())
theorem f71Ok (k:Nat):FnV P 186 [.dat (.int .i64)] [.dat (.int .i64)] (f71F k) :=
 fs tm TB.nil Tryz.func186 (by kernel_rfl) (SumsOk.nil |>.s (f71l0O k) (by kernel_rfl)) none fun _=>by kernel_rfl
noncomputable def f29T (k:Nat):TB P:=TB.nil |>.u (f70Ok k) |>.u (f71Ok k) |>.u (f43Ok k) |>.u (f42Ok k) |>.u (f28Ok k)
noncomputable def f29F (k:Nat)(x:D46):Option (Int) :=
 Option.bind (f28F k (x.1.1,(x.1.2.1,x.1.2.2))) fun y1 =>
 Option.bind (f43F k ((x.1.1==(4:Int)),(17:Int))) fun y2 =>
 Option.bind (f42F k [y1,y2]) fun y3 =>
 bif (y3 !=(0:Int)) then
  some y3
 else
 bif (x.1.1==(0:Int)) then
  Option.bind (f43F k ((x.2.1 !=(0:Int)),(5:Int))) fun y4 =>
  Option.bind (f43F k (((x.2.2.size:Int) !=x.1.2.1),(18:Int))) fun y5 =>
  Option.bind (f42F k [y4,y5]) fun y6 =>
  some y6
 else
 Option.bind (f71F k x.1.2.1) fun y7 =>
 Option.bind (f43F k ((!strEq x.2.2 ByteArray.empty),(5:Int))) fun y8 =>
 Option.bind (f70F k (x.2.1,(IntKind.i64.wrap (0 - (IntKind.i64.wrap (y7 - (1:Int))))),(IntKind.i64.wrap (y7 - (1:Int))))) fun y9 =>
 Option.bind (f43F k ((!y9),(19:Int))) fun y10 =>
 Option.bind (f42F k [y8,y10]) fun y11 =>
 some y11
theorem f29Ok (k:Nat):FnV P 129 [.agg (.pair (.int .i64) Y0),.agg Y7] [.dat (.int .i64)] (f29F k) :=
 fs tm (f29T k) Tryz.func129 (by kernel_rfl) SumsOk.nil none fun _=>by kernel_rfl
noncomputable def f972T (k:Nat):TB P:=TB.nil |>.u (f29Ok k)
noncomputable def f972p0 {R:Type}(k:Nat)(k0:D47->Option R)(v:D47):Option R :=
 bif ((decide ((0:Int)<=v.2.2.2.1))&&(decide (v.2.2.2.1<(v.2.1.length:Int)))) then
 let t1:=(v.2.1.getD (Int.toNat v.2.2.2.1) (ByteArray.empty,((0:Int),((0:Int),(((0:Int),((0:Int),(0:Int))),((0:Int),(ByteArray.empty,((0:Int),[]))))))))
 bif (t1.2.2.2.2.1 !=(0:Int)) then
  bif (decide ((v.2.2.2.2.1.length+[(t1.2.2.2.1.1,(t1.2.2.2.1.2.1,t1.2.2.2.1.2.2))].length)*24<=140737488355328)&&decide (v.2.2.2.2.1.length+[(t1.2.2.2.1.1,(t1.2.2.2.1.2.1,t1.2.2.2.1.2.2))].length<=9223372036854775807)) then
  k0 (v.1,v.2.1,v.2.2.1,v.2.2.2.1,(v.2.2.2.2.1++[(t1.2.2.2.1.1,(t1.2.2.2.1.2.1,t1.2.2.2.1.2.2))]),())
  else none
 else
 k0 (v.1,v.2.1,v.2.2.1,v.2.2.2.1,v.2.2.2.2.1,())
 else none
noncomputable def f972p0S (k:Nat):=partSum ⟨[(1,.one (.ro Y7)),(5,.one (.own 0)),(12,.one (.ro (.pair .str Y5))),(13,.one (.int .i64)),(14,.one (.int .i64))],[(0,.row 121 (.pair (.int .i64) Y0) .plain)],1,[]⟩ ⟨[1,5,12,13,14],[],[]⟩ fun R K v=>f972p0 k (fun w=>K .normal (encSt ⟨[(1,.one (.ro Y7)),(5,.one (.own 0)),(12,.one (.ro (.pair .str Y5))),(13,.one (.int .i64)),(14,.one (.int .i64))],[(0,.row 121 (.pair (.int .i64) Y0) .plain)],1,[]⟩ w)) v
theorem f972p0O (k:Nat):SumO P Tryz.f72 934 (f972p0S k):=pt tm (f972T k) ⟨[1,4,5,12,13,14],[],[]⟩ SumsOk.nil fun _ _ _=>by kernel_rfl
noncomputable def f972l1s {R:Type}(k:Nat)(rec:D47->Option R)(k0:D48->Option R)(v:D47):Option R :=
 bif (decide (v.2.2.2.1<v.2.2.1)) then
  f972p0 k
   (fun (w2:D47) =>
    rec (w2.1,w2.2.1,w2.2.2.1,(IntKind.i64.wrap (w2.2.2.2.1+(1:Int))),w2.2.2.2.2.1,()))
   (v.1,v.2.1,v.2.2.1,v.2.2.2.1,v.2.2.2.2.1,())
 else
 k0 (v.1,v.2.2.2.2.1,())
noncomputable def f972l1 {R:Type}(k:Nat)(k0:D48->Option R)(v:D47):Option R:=iterS (fun rec v=>f972l1s k rec k0 v) k v
noncomputable def f972l1S (k:Nat):=loopSum ⟨[(1,.one (.ro Y7)),(5,.one (.own 0)),(12,.one (.ro (.pair .str Y5))),(13,.one (.int .i64)),(14,.one (.int .i64))],[(0,.row 121 (.pair (.int .i64) Y0) .plain)],1,[]⟩ ⟨[1,5,12,13,14],[(5,121,(.pair (.int .i64) Y0))],[]⟩ k fun R rec K v=>f972l1s k rec (fun w=>K (.exit 0) (encSt ⟨[(1,.one (.ro Y7)),(5,.one (.own 0))],[(0,.row 121 (.pair (.int .i64) Y0) .plain)],1,[]⟩ w)) v
theorem f972l1O (k:Nat):SumO P Tryz.f72 58 (f972l1S k):=lp tm (f972T k) ⟨[1,4,5],[],[]⟩ (SumsOk.nil |>.s (f972p0O k) (by kernel_rfl)) (by kernel_rfl) fun _ _ _ _=>by kernel_rfl
noncomputable def f972l2s {R:Type}(k:Nat)(rec:D49->Option R)(k0:Int×Unit->Option R)(k1:Unit->Option R)(v:D49):Option R :=
 bif (decide (v.2.2.1<v.2.1)) then
  bif ((decide ((0:Int)<=v.2.2.1))&&(decide (v.2.2.1<(v.1.length:Int)))) then
  bif ((decide ((0:Int)<=v.2.2.1))&&(decide (v.2.2.1<(v.2.2.2.1.length:Int)))) then
  let t4:=(v.2.2.2.1.getD (Int.toNat v.2.2.1) ((0:Int),((0:Int),(0:Int)))).1
  let t5:=(v.2.2.2.1.getD (Int.toNat v.2.2.1) ((0:Int),((0:Int),(0:Int)))).2.1
  let t6:=(v.2.2.2.1.getD (Int.toNat v.2.2.1) ((0:Int),((0:Int),(0:Int)))).2.2
  Option.bind (f29F k ((t4,(t5,t6)),((v.1.getD (Int.toNat v.2.2.1) ((0:Int),ByteArray.empty)).1,(v.1.getD (Int.toNat v.2.2.1) ((0:Int),ByteArray.empty)).2))) fun y7 =>
  bif (y7 !=(0:Int)) then
   k0 (y7,())
  else
  rec (v.1,v.2.1,(IntKind.i64.wrap (v.2.2.1+(1:Int))),v.2.2.2.1,())
  else none
  else none
 else
 k1 (())
noncomputable def f972l2 {R:Type}(k:Nat)(k0:Int×Unit->Option R)(k1:Unit->Option R)(v:D49):Option R:=iterS (fun rec v=>f972l2s k rec k0 k1 v) k v
noncomputable def f972l2S (k:Nat):=loopSum ⟨[(5,.one (.own 0)),(32,.one (.ro Y7)),(33,.one (.int .i64)),(34,.one (.int .i64))],[(0,.row 121 (.pair (.int .i64) Y0) .plain)],1,[]⟩ ⟨[5,32,33,34],[],[]⟩ k fun R rec K v=>f972l2s k rec (fun w=>K .ret (encSt ⟨[(4,.one (.int .i64))],[],0,[]⟩ w)) (fun w=>K (.exit 2) (encSt ⟨[],[],0,[]⟩ w)) v
theorem f972l2O (k:Nat):SumO P Tryz.f72 250 (f972l2S k):=lp tm (f972T k) ⟨[4],[],[]⟩ SumsOk.nil (by kernel_rfl) fun _ _ _ _=>by kernel_rfl
noncomputable def f972F (k:Nat)(x:D50):Option (Int) :=
 f972l1 k
  (fun (w3:D48) =>
   bif ((w3.1.length:Int) !=(w3.2.1.length:Int)) then
    some (37:Int)
   else
   f972l2 k
    (fun (w8:Int×Unit) =>
     some w8.1)
    (fun (w9:Unit) =>
     some (0:Int))
    (w3.1,(w3.1.length:Int),(0:Int),w3.2.1,()))
  (x.2,x.1.2.1,(x.1.2.1.length:Int),(0:Int),[],())
theorem f972Ok (k:Nat):FnV P 72 [.agg (.pair .str Y6),.dat (.slice Y7)] [.dat (.int .i64)] (f972F k) :=
 fs tm (f972T k) Tryz.func72 (by kernel_rfl) (SumsOk.nil |>.s (f972l2O k) (by kernel_rfl) |>.s (f972l1O k) (by kernel_rfl) |>.s (f972p0O k) (by kernel_rfl)) none fun _=>by kernel_rfl
noncomputable def f1031T (k:Nat):TB P:=TB.nil |>.u (f969Ok k)
noncomputable def f1031F (k:Nat)(x:Int):Option (Bool) :=
 Option.bind (f969F k (x,(1:Int),(99:Int))) fun y1 =>
 some (!y1)
theorem f1031Ok (k:Nat):FnV P 131 [.dat (.int .i64)] [.dat .bool] (f1031F k) :=
 fs tm (f1031T k) Tryz.func131 (by kernel_rfl) SumsOk.nil none fun _=>by kernel_rfl
noncomputable def f1088v0I:Shape:=⟨[(0,.one (.ro (.int .i64))),(1,.one (.fn 131 []))],[],0,[]⟩
noncomputable def f1088v0U:Shape:=⟨[(0,.one (.int .i64))],[],0,[]⟩
noncomputable def f1088v0T (k:Nat):TB P:=TB.nil |>.u (f1031Ok k)
noncomputable def f1088v0l0s {R:Type}(k:Nat)(rec:D2->Option R)(k0:Int×Unit->Option R)(k1:Unit->Option R)(v:D2):Option R :=
 bif (decide (v.2.2.1<v.2.1)) then
  bif ((decide ((0:Int)<=v.2.2.1))&&(decide (v.2.2.1<(v.1.length:Int)))) then
  Option.bind (f1031F k (v.1.getD (Int.toNat v.2.2.1) (0:Int))) fun y1 =>
  bif y1 then
   k0 (v.2.2.1,())
  else
  rec (v.1,v.2.1,(IntKind.i64.wrap (v.2.2.1+(1:Int))),())
  else none
 else
 k1 (())
noncomputable def f1088v0l0 {R:Type}(k:Nat)(k0:Int×Unit->Option R)(k1:Unit->Option R)(v:D2):Option R:=iterS (fun rec v=>f1088v0l0s k rec k0 k1 v) k v
noncomputable def f1088v0l0S (k:Nat):=loopSum ⟨[(0,.one (.ro (.int .i64))),(1,.one (.fn 131 [])),(7,.one (.int .i64)),(8,.one (.int .i64))],[],0,[]⟩ ⟨[0,1,7,8],[],[]⟩ k fun R rec K v=>f1088v0l0s k rec (fun w=>K .ret (encSt ⟨[(4,.one (.int .i64))],[],0,[]⟩ w)) (fun w=>K (.exit 0) (encSt ⟨[],[],0,[]⟩ w)) v
theorem f1088v0l0O (k:Nat):SumO P Tryz.f188 26 (f1088v0l0S k):=lp tm (f1088v0T k) ⟨[4],[],[]⟩ SumsOk.nil (by kernel_rfl) fun _ _ _ _=>by kernel_rfl
noncomputable def f1088v0F (k:Nat)(x:List Int×Unit):Option (Int×Unit) :=
 f1088v0l0 k
  (fun (w2:Int×Unit) =>
   some (w2.1,()))
  (fun (w3:Unit) =>
   some ((-1:Int),()))
  (x.1,(x.1.length:Int),(0:Int),())
theorem f1088v0Ok (k:Nat):GnV P 188 f1088v0I f1088v0U (f1088v0F k) :=
 gs tm (f1088v0T k) Tryz.func188 (by kernel_rfl) (SumsOk.nil |>.s (f1088v0l0O k) (by kernel_rfl)) [.dat .bool] [] none fun _=>by kernel_rfl
noncomputable def f1030v0I:Shape:=⟨[(0,.one (.ro (.int .i64))),(1,.one (.fn 131 []))],[],0,[]⟩
noncomputable def f1030v0U:Shape:=⟨[(0,.one (.bool))],[],0,[]⟩
noncomputable def f1030v0T (k:Nat):TB P:=TB.nil |>.g (f1088v0Ok k)
noncomputable def f1030v0F (k:Nat)(x:List Int×Unit):Option (Bool×Unit) :=
 Option.bind (f1088v0F k (x.1,())) fun y1 =>
 some ((decide (y1.1≥(0:Int))),())
theorem f1030v0Ok (k:Nat):GnV P 130 f1030v0I f1030v0U (f1030v0F k) :=
 gs tm (f1030v0T k) Tryz.func130 (by kernel_rfl) SumsOk.nil [.dat .bool] [] none fun _=>by kernel_rfl
noncomputable def f979T (k:Nat):TB P:=TB.nil |>.g (f1030v0Ok k) |>.u (f968Ok k) |>.u (f966Ok k)
noncomputable def f979p0 {R:Type}(k:Nat)(k0:D51->Option R)(v:D51):Option R :=
 bif v.2.1 then
  bif ((decide ((0:Int)<=(IntKind.i64.wrap (v.2.2.1 - (1:Int)))))&&(decide ((IntKind.i64.wrap (v.2.2.1 - (1:Int)))<(v.1.length:Int)))) then
  let t1:=(v.1.getD (Int.toNat (IntKind.i64.wrap (v.2.2.1 - (1:Int)))) (0:Int))
  bif ((decide ((0:Int)<=v.2.2.1))&&(decide (v.2.2.1<(v.1.length:Int)))) then
  k0 (v.1,(decide (t1<(v.1.getD (Int.toNat v.2.2.1) (0:Int)))),v.2.2.1,())
  else none
  else none
 else
 k0 (v.1,false,v.2.2.1,())
noncomputable def f979p0S (k:Nat):=partSum ⟨[(0,.one (.ro (.int .i64))),(3,.one (.bool)),(4,.one (.int .i64))],[],0,[]⟩ ⟨[0,3,4],[],[]⟩ fun R K v=>f979p0 k (fun w=>K .normal (encSt ⟨[(0,.one (.ro (.int .i64))),(3,.one (.bool)),(4,.one (.int .i64))],[],0,[]⟩ w)) v
theorem f979p0O (k:Nat):SumO P Tryz.f79 466 (f979p0S k):=pt tm (f979T k) ⟨[0,2,3,4],[],[]⟩ SumsOk.nil fun _ _ _=>by kernel_rfl
noncomputable def f979l1s {R:Type}(k:Nat)(rec:D51->Option R)(k0:List Int×Bool×Unit->Option R)(v:D51):Option R :=
 bif (decide (v.2.2.1<(v.1.length:Int))) then
  f979p0 k
   (fun (w2:D51) =>
    rec (w2.1,w2.2.1,(IntKind.i64.wrap (w2.2.2.1+(1:Int))),()))
   (v.1,v.2.1,v.2.2.1,())
 else
 k0 (v.1,v.2.1,())
noncomputable def f979l1 {R:Type}(k:Nat)(k0:List Int×Bool×Unit->Option R)(v:D51):Option R:=iterS (fun rec v=>f979l1s k rec k0 v) k v
noncomputable def f979l1S (k:Nat):=loopSum ⟨[(0,.one (.ro (.int .i64))),(3,.one (.bool)),(4,.one (.int .i64))],[],0,[]⟩ ⟨[0,3,4],[],[]⟩ k fun R rec K v=>f979l1s k rec (fun w=>K (.exit 0) (encSt ⟨[(0,.one (.ro (.int .i64))),(3,.one (.bool))],[],0,[]⟩ w)) v
theorem f979l1O (k:Nat):SumO P Tryz.f79 58 (f979l1S k):=lp tm (f979T k) ⟨[0,2,3],[],[]⟩ (SumsOk.nil |>.s (f979p0O k) (by kernel_rfl)) (by kernel_rfl) fun _ _ _ _=>by kernel_rfl
noncomputable def f979F (k:Nat)(x:(List Int)):Option (Int) :=
 f979l1 k
  (fun (w3:List Int×Bool×Unit) =>
   Option.bind (f1030v0F k (w3.1,())) fun y4 =>
   Option.bind (f968F k (y4.1,(3:Int))) fun y5 =>
   Option.bind (f968F k ((!w3.2.1),(14:Int))) fun y6 =>
   Option.bind (f966F k [y5,y6]) fun y7 =>
   some y7)
  (x,true,(1:Int),())
theorem f979Ok (k:Nat):FnV P 79 [.dat (.slice (.int .i64))] [.dat (.int .i64)] (f979F k) :=
 fs tm (f979T k) Tryz.func79 (by kernel_rfl) (SumsOk.nil |>.s (f979l1O k) (by kernel_rfl) |>.s (f979p0O k) (by kernel_rfl)) none fun _=>by kernel_rfl
noncomputable def f1119l0s {R:Type}(k:Nat)(rec:D52->Option R)(k0:Int×Unit->Option R)(k1:Unit->Option R)(v:D52):Option R :=
 bif (decide (v.2.2.2.1<v.2.2.1)) then
  bif ((decide ((0:Int)<=v.2.2.2.1))&&(decide (v.2.2.2.1<(v.1.length:Int)))) then
  bif (v.2.1==(v.1.getD (Int.toNat v.2.2.2.1) (0:Int))) then
   k0 (v.2.2.2.1,())
  else
  rec (v.1,v.2.1,v.2.2.1,(IntKind.i64.wrap (v.2.2.2.1+(1:Int))),())
  else none
 else
 k1 (())
noncomputable def f1119l0 {R:Type}(k:Nat)(k0:Int×Unit->Option R)(k1:Unit->Option R)(v:D52):Option R:=iterS (fun rec v=>f1119l0s k rec k0 k1 v) k v
noncomputable def f1119l0S (k:Nat):=loopSum ⟨[(0,.one (.ro (.int .i64))),(1,.one (.int .i64)),(7,.one (.int .i64)),(8,.one (.int .i64))],[],0,[]⟩ ⟨[0,1,7,8],[],[]⟩ k fun R rec K v=>f1119l0s k rec (fun w=>K .ret (encSt ⟨[(4,.one (.int .i64))],[],0,[]⟩ w)) (fun w=>K (.exit 0) (encSt ⟨[],[],0,[]⟩ w)) v
theorem f1119l0O (k:Nat):SumO P Tryz.f219 26 (f1119l0S k):=lp tm TB.nil ⟨[4],[],[]⟩ SumsOk.nil (by kernel_rfl) fun _ _ _ _=>by kernel_rfl
noncomputable def f1119F (k:Nat)(x:(List Int)×Int):Option (Int) :=
 f1119l0 k
  (fun (w1:Int×Unit) =>
   some w1.1)
  (fun (w2:Unit) =>
   some (-1:Int))
  (x.1,x.2,(x.1.length:Int),(0:Int),())
theorem f1119Ok (k:Nat):FnV P 219 [.dat (.slice (.int .i64)),.dat (.int .i64)] [.dat (.int .i64)] (f1119F k) :=
 fs tm TB.nil Tryz.func219 (by kernel_rfl) (SumsOk.nil |>.s (f1119l0O k) (by kernel_rfl)) none fun _=>by kernel_rfl
noncomputable def f1090T (k:Nat):TB P:=TB.nil |>.u (f1119Ok k)
noncomputable def f1090F (k:Nat)(x:(List Int)×Int):Option (Bool) :=
 Option.bind (f1119F k (x.1,x.2)) fun y1 =>
 some (decide (y1≥(0:Int)))
theorem f1090Ok (k:Nat):FnV P 190 [.dat (.slice (.int .i64)),.dat (.int .i64)] [.dat .bool] (f1090F k) :=
 fs tm (f1090T k) Tryz.func190 (by kernel_rfl) SumsOk.nil none fun _=>by kernel_rfl
noncomputable def f1089v0I:Shape:=⟨[(0,.agg [.int .i64,.bool]),(1,.one (.ptr 0 0))],[(0,.var 51 [.ro (.int .i64)])],1,[]⟩
noncomputable def f1089v0U:Shape:=⟨[(0,.one (.bool))],[(0,.var 51 [.ro (.int .i64)])],1,[]⟩
noncomputable def f1089v0T (k:Nat):TB P:=TB.nil |>.u (f1090Ok k)
noncomputable def f1089v0F (k:Nat)(x:D53):Option (Bool×List Int×Unit) :=
 Option.bind (f1090F k (x.2.2.1,x.1)) fun y1 =>
 some ((y1==x.2.1),x.2.2.1,())
theorem f1089v0Ok (k:Nat):GnV P 189 f1089v0I f1089v0U (f1089v0F k) :=
 gs tm (f1089v0T k) Tryz.func189 (by kernel_rfl) SumsOk.nil [.dat .bool] [] none fun _=>by kernel_rfl
noncomputable def f1104v2I:Shape:=⟨[(0,.one (.ro Y1)),(1,.one (.fn 189 [0]))],[(0,.var 51 [.ro (.int .i64)])],1,[]⟩
noncomputable def f1104v2U:Shape:=⟨[(0,.one (.int .i64))],[(0,.var 51 [.ro (.int .i64)])],1,[]⟩
noncomputable def f1104v2T (k:Nat):TB P:=TB.nil |>.g (f1089v0Ok k)
noncomputable def f1104v2l0s {R:Type}(k:Nat)(rec:D54->Option R)(k0:Int×List Int×Unit->Option R)(k1:List Int×Unit->Option R)(v:D54):Option R :=
 bif (decide (v.2.2.1<v.2.1)) then
  bif ((decide ((0:Int)<=v.2.2.1))&&(decide (v.2.2.1<(v.1.length:Int)))) then
  Option.bind (f1089v0F k ((v.1.getD (Int.toNat v.2.2.1) ((0:Int),false)).1,(v.1.getD (Int.toNat v.2.2.1) ((0:Int),false)).2,v.2.2.2.1,())) fun y1 =>
  bif y1.1 then
   k0 (v.2.2.1,y1.2.1,())
  else
  rec (v.1,v.2.1,(IntKind.i64.wrap (v.2.2.1+(1:Int))),y1.2.1,())
  else none
 else
 k1 (v.2.2.2.1,())
noncomputable def f1104v2l0 {R:Type}(k:Nat)(k0:Int×List Int×Unit->Option R)(k1:List Int×Unit->Option R)(v:D54):Option R:=iterS (fun rec v=>f1104v2l0s k rec k0 k1 v) k v
noncomputable def f1104v2l0S (k:Nat):=loopSum ⟨[(0,.one (.ro Y1)),(1,.one (.fn 189 [0])),(7,.one (.int .i64)),(8,.one (.int .i64))],[(0,.var 51 [.ro (.int .i64)])],1,[some 0]⟩ ⟨[0,1,7,8],[],[]⟩ k fun R rec K v=>f1104v2l0s k rec (fun w=>K .ret (encSt ⟨[(4,.one (.int .i64))],[(0,.var 51 [.ro (.int .i64)])],1,[some 0]⟩ w)) (fun w=>K (.exit 0) (encSt ⟨[],[(0,.var 51 [.ro (.int .i64)])],1,[some 0]⟩ w)) v
theorem f1104v2l0O (k:Nat):SumO P Tryz.f204 26 (f1104v2l0S k):=lp tm (f1104v2T k) ⟨[4],[],[]⟩ SumsOk.nil (by kernel_rfl) fun _ _ _ _=>by kernel_rfl
noncomputable def f1104v2F (k:Nat)(x:D55):Option (Int×List Int×Unit) :=
 f1104v2l0 k
  (fun (w2:Int×List Int×Unit) =>
   some (w2.1,w2.2.1,()))
  (fun (w3:List Int×Unit) =>
   some ((-1:Int),w3.1,()))
  (x.1,(x.1.length:Int),(0:Int),x.2.1,())
theorem f1104v2Ok (k:Nat):GnV P 204 f1104v2I f1104v2U (f1104v2F k) :=
 gs tm (f1104v2T k) Tryz.func204 (by kernel_rfl) (SumsOk.nil |>.s (f1104v2l0O k) (by kernel_rfl)) [.dat .bool] [] none fun _=>by kernel_rfl
noncomputable def f1052v2I:Shape:=⟨[(0,.one (.ro Y1)),(1,.one (.fn 189 [0]))],[(0,.var 51 [.ro (.int .i64)])],1,[]⟩
noncomputable def f1052v2U:Shape:=⟨[(0,.one (.bool))],[(0,.var 51 [.ro (.int .i64)])],1,[]⟩
noncomputable def f1052v2T (k:Nat):TB P:=TB.nil |>.g (f1104v2Ok k)
noncomputable def f1052v2F (k:Nat)(x:D55):Option (Bool×List Int×Unit) :=
 Option.bind (f1104v2F k (x.1,x.2.1,())) fun y1 =>
 some ((decide (y1.1≥(0:Int))),y1.2.1,())
theorem f1052v2Ok (k:Nat):GnV P 152 f1052v2I f1052v2U (f1052v2F k) :=
 gs tm (f1052v2T k) Tryz.func152 (by kernel_rfl) SumsOk.nil [.dat .bool] [] none fun _=>by kernel_rfl
noncomputable def f1032T (k:Nat):TB P:=TB.nil |>.g (f1052v2Ok k)
noncomputable def f1032F (k:Nat)(x:D11×(List Int)):Option (Bool) :=
 Option.bind (f1052v2F k (x.1.2.2.2.2.2.2.2,x.2,())) fun y1 =>
 some (!y1.1)
theorem f1032Ok (k:Nat):FnV P 132 [.agg (.pair .str Y5),.dat (.slice (.int .i64))] [.dat .bool] (f1032F k) :=
 fs tm (f1032T k) Tryz.func132 (by kernel_rfl) SumsOk.nil none fun _=>by kernel_rfl
theorem f73V (k:Nat):FnV P 122 [.dat .str,.dat (.int .i64)] [.dat .str] (f73F k):=⟨f73B,f73Ok k⟩
noncomputable def f1092F (k:Nat)(x:D11):Option (Bool) :=
 some (x.2.2.2.1.1 !=(0:Int))
theorem f1092Ok (k:Nat):FnV P 192 [.agg (.pair .str Y5)] [.dat .bool] (f1092F k) :=
 fs tm TB.nil Tryz.func192 (by kernel_rfl) SumsOk.nil none fun _=>by kernel_rfl
noncomputable def f52T (k:Nat):TB P:=TB.nil |>.u (f70Ok k) |>.u (f43Ok k)
noncomputable def f52F (k:Nat)(x:(Int×Int)):Option (Int) :=
 Option.bind (f70F k (x.1,(-999999999999999:Int),(999999999999999:Int))) fun y1 =>
 bif (!y1) then
  Option.bind (f43F k (true,(3:Int))) fun y2 =>
  some y2
 else
 Option.bind (f70F k (x.2,(0:Int),(15:Int))) fun y3 =>
 Option.bind (f43F k ((!y3),(3:Int))) fun y4 =>
 some y4
theorem f52Ok (k:Nat):FnV P 230 [.agg Y0] [.dat (.int .i64)] (f52F k) :=
 fs tm (f52T k) Tryz.func230 (by kernel_rfl) SumsOk.nil none fun _=>by kernel_rfl
theorem f228V (k:Nat):FnV P 249 [.dat (.int .i64)] [.dat .str] (f228F k):=⟨f228B,f228Ok k⟩
noncomputable def f210T (k:Nat):TB P:=TB.nil |>.u (f228V k) |>.u (f52Ok k) |>.u (f73V k)
noncomputable def f210p0 {R:Type}(k:Nat)(k0:D56->Option R)(v:D56):Option R :=
 bif (decide ((v.1.size:Int)<=v.2.2.1)) then
  let t3:=(IntKind.i64.wrap ((IntKind.i64.wrap (v.2.2.1+(1:Int))) - (v.1.size:Int)))
  Option.bind (f73F k ((⟨#[48]⟩:ByteArray),t3)) fun y4 =>
  bif (decide (y4.size+v.1.size<=9223372036854775807)) then
  k0 ((y4++v.1),v.2.1,v.2.2.1,())
  else none
 else
 k0 (v.1,v.2.1,v.2.2.1,())
noncomputable def f210p0S (k:Nat):=partSum ⟨[(1,.one (.ptr 0 0)),(5,.one (.str))],[(0,.var 273 [.int .i64,.int .i64])],1,[]⟩ ⟨[1,5],[],[]⟩ fun R K v=>f210p0 k (fun w=>K .normal (encSt ⟨[(1,.one (.ptr 0 0)),(5,.one (.str))],[(0,.var 273 [.int .i64,.int .i64])],1,[]⟩ w)) v
theorem f210p0O (k:Nat):SumO P Tryz.f220 30 (f210p0S k):=pt tm (f210T k) ⟨[1,2,3,5],[],[]⟩ SumsOk.nil fun _ _ _=>by kernel_rfl
noncomputable def f210p1 {R:Type}(k:Nat)(k0:D56->Option R)(v:D56):Option R :=
 bif (decide (v.2.2.1 > (0:Int))) then
  bif (sliceBds (0:Int) (IntKind.i64.wrap ((v.1.size:Int) - v.2.2.1)) (v.1.size:Int)) then
  let t6:=(v.1.extract 0 (Int.toNat (IntKind.i64.wrap ((v.1.size:Int) - v.2.2.1))))
  bif (decide (t6.size+(⟨#[46]⟩:ByteArray).size<=9223372036854775807)) then
  bif (sliceBds (IntKind.i64.wrap ((v.1.size:Int) - v.2.2.1)) (v.1.size:Int) (v.1.size:Int)) then
  let t7:=(v.1.extract (Int.toNat (IntKind.i64.wrap ((v.1.size:Int) - v.2.2.1))) (Int.toNat (v.1.size:Int)))
  bif (decide ((t6++(⟨#[46]⟩:ByteArray)).size+t7.size<=9223372036854775807)) then
  k0 (((t6++(⟨#[46]⟩:ByteArray))++t7),v.2.1,v.2.2.1,())
  else none
  else none
  else none
  else none
 else
 k0 (v.1,v.2.1,v.2.2.1,())
noncomputable def f210p1S (k:Nat):=partSum ⟨[(1,.one (.ptr 0 0)),(5,.one (.str))],[(0,.var 273 [.int .i64,.int .i64])],1,[]⟩ ⟨[1,5],[],[]⟩ fun R K v=>f210p1 k (fun w=>K .normal (encSt ⟨[(1,.one (.ptr 0 0)),(5,.one (.str))],[(0,.var 273 [.int .i64,.int .i64])],1,[]⟩ w)) v
theorem f210p1O (k:Nat):SumO P Tryz.f220 62 (f210p1S k):=pt tm (f210T k) ⟨[1,2,3,5],[],[]⟩ SumsOk.nil fun _ _ _=>by kernel_rfl
noncomputable def f210p2 {R:Type}(k:Nat)(k0:ByteArray×Unit->Option R)(v:D56):Option R :=
 bif (decide (v.2.1<(0:Int))) then
  bif (decide ((⟨#[45]⟩:ByteArray).size+v.1.size<=9223372036854775807)) then
  k0 (((⟨#[45]⟩:ByteArray)++v.1),())
  else none
 else
 k0 (v.1,())
noncomputable def f210p2S (k:Nat):=partSum ⟨[(1,.one (.ptr 0 0)),(5,.one (.str))],[(0,.var 273 [.int .i64,.int .i64])],1,[]⟩ ⟨[1,5],[],[]⟩ fun R K v=>f210p2 k (fun w=>K .normal (encSt ⟨[(5,.one (.str))],[],0,[]⟩ w)) v
theorem f210p2O (k:Nat):SumO P Tryz.f220 126 (f210p2S k):=pt tm (f210T k) ⟨[2,3,5],[],[]⟩ SumsOk.nil fun _ _ _=>by kernel_rfl
noncomputable def f210F (k:Nat)(x:(Int×Int)):Option (ByteArray×Int) :=
 Option.bind (f52F k (x.1,x.2)) fun y1 =>
 bif (y1 !=(0:Int)) then
  some (ByteArray.empty,y1)
 else
 Option.bind (f228F k (mxI x.1 (IntKind.i64.wrap (0 - x.1)))) fun y2 =>
 f210p0 k
  (fun (w5:D56) =>
   f210p1 k
    (fun (w8:D56) =>
     f210p2 k
      (fun (w9:ByteArray×Unit) =>
       some (w9.1,(0:Int)))
      (w8.1,w8.2.1,w8.2.2.1,()))
    (w5.1,w5.2.1,w5.2.2.1,()))
  (y2,x.1,x.2,())
theorem f210Ok (k:Nat):FnV P 220 [.agg Y0] [.dat .str,.dat (.int .i64)] (f210F k) :=
 fs tm (f210T k) Tryz.func220 (by kernel_rfl) (SumsOk.nil |>.s (f210p2O k) (by kernel_rfl) |>.s (f210p1O k) (by kernel_rfl) |>.s (f210p0O k) (by kernel_rfl)) none fun _=>by kernel_rfl
noncomputable def f1091T (k:Nat):TB P:=TB.nil |>.u (f210Ok k) |>.u (f1092Ok k) |>.u (f1050Ok k) |>.u (f73V k)
noncomputable def f1091F (k:Nat)(x:D11×(Int×ByteArray)):Option (ByteArray) :=
 Option.bind (f1092F k (x.1.1,(x.1.2.1,(x.1.2.2.1,((x.1.2.2.2.1.1,(x.1.2.2.2.1.2.1,x.1.2.2.2.1.2.2)),(x.1.2.2.2.2.1,(x.1.2.2.2.2.2.1,(x.1.2.2.2.2.2.2.1,x.1.2.2.2.2.2.2.2)))))))) fun y1 =>
 bif (!y1) then
  some x.2.2
 else
 Option.bind (f210F k (x.2.1,x.1.2.2.2.1.2.2)) fun y2 =>
 Option.bind (f1050F k (x.1.1,(x.1.2.1,(x.1.2.2.1,((x.1.2.2.2.1.1,(x.1.2.2.2.1.2.1,x.1.2.2.2.1.2.2)),(x.1.2.2.2.2.1,(x.1.2.2.2.2.2.1,(x.1.2.2.2.2.2.2.1,x.1.2.2.2.2.2.2.2)))))))) fun y3 =>
 Option.bind (f73F k ((⟨#[32]⟩:ByteArray),(mxI (IntKind.i64.wrap (y3 - (y2.1.size:Int))) (0:Int)))) fun y4 =>
 bif (decide (y4.size+y2.1.size<=9223372036854775807)) then
 some (y4++y2.1)
 else none
theorem f1091Ok (k:Nat):FnV P 191 [.agg (.pair .str Y5),.agg Y7] [.dat .str] (f1091F k) :=
 fs tm (f1091T k) Tryz.func191 (by kernel_rfl) SumsOk.nil none fun _=>by kernel_rfl
noncomputable def f1044F (k:Nat)(x:D11):Option (Bool) :=
 bif (x.2.2.2.2.1==(2:Int)) then
  some true
 else
 some (x.2.2.2.2.1==(3:Int))
theorem f1044Ok (k:Nat):FnV P 144 [.agg (.pair .str Y5)] [.dat .bool] (f1044F k) :=
 fs tm TB.nil Tryz.func144 (by kernel_rfl) SumsOk.nil none fun _=>by kernel_rfl
noncomputable def f1033v0I:Shape:=⟨[(0,.one (.ptr 0 0)),(1,.agg [.str,.int .i64,.int .i64,.int .i64,.int .i64,.int .i64,.int .i64,.str,.int .i64,.ro Y1]),(2,.agg [.int .i64,.str]),(3,.one (.int .i64))],[(0,.var 141 [.own 1,.emp,.int .i64]),(1,.row 5 (.int .u8) .plain)],2,[]⟩
noncomputable def f1033v0U:Shape:=⟨[],[(0,.var 141 [.own 2,.own 3,.int .i64]),(2,.row 5 (.int .u8) .plain),(3,.row 5 (.int .u8) .plain)],4,[]⟩
noncomputable def f1033v0W:Shape:=⟨[],[(0,.var 141 [.own 2,.emp,.int .i64]),(2,.row 5 (.int .u8) .plain)],3,[]⟩
noncomputable def f1033v0T (k:Nat):TB P:=TB.nil |>.u (f1092Ok k) |>.u (f1091Ok k) |>.u (f1050Ok k) |>.u (f1044Ok k) |>.u (f1024Ok k) |>.u (f73V k) |>.u (f968Ok k) |>.u (f966Ok k)
noncomputable def f1033v0p0 {R:Type}(k:Nat)(k0:D57->Option R)(v:D59):Option R :=
 bif (v.2.2.2.2.2.2.2.2.2.2.2.1==(2:Int)) then
  Option.bind (f1050F k (v.2.2.2.2.2.1,(v.2.2.2.2.2.2.1,(v.2.2.2.2.2.2.2.1,((v.2.2.2.2.2.2.2.2.1,(v.2.2.2.2.2.2.2.2.2.1,v.2.2.2.2.2.2.2.2.2.2.1)),(v.2.2.2.2.2.2.2.2.2.2.2.1,(v.2.2.2.2.2.2.2.2.2.2.2.2.1,(v.2.2.2.2.2.2.2.2.2.2.2.2.2.1,v.2.2.2.2.2.2.2.2.2.2.2.2.2.2.1)))))))) fun y1 =>
  Option.bind (f73F k ((⟨#[32]⟩:ByteArray),y1)) fun y2 =>
  k0 (v.1,y2,v.2.2.1,v.2.2.2.1,v.2.2.2.2.1,v.2.2.2.2.2.1,v.2.2.2.2.2.2.1,v.2.2.2.2.2.2.2.1,v.2.2.2.2.2.2.2.2.1,v.2.2.2.2.2.2.2.2.2.1,v.2.2.2.2.2.2.2.2.2.2.1,v.2.2.2.2.2.2.2.2.2.2.2.1,v.2.2.2.2.2.2.2.2.2.2.2.2.1,v.2.2.2.2.2.2.2.2.2.2.2.2.2.1,v.2.2.2.2.2.2.2.2.2.2.2.2.2.2.1,())
 else
 bif (v.2.2.2.2.2.2.2.2.2.2.2.1 !=(0:Int)) then
  Option.bind (f1091F k ((v.2.2.2.2.2.1,(v.2.2.2.2.2.2.1,(v.2.2.2.2.2.2.2.1,((v.2.2.2.2.2.2.2.2.1,(v.2.2.2.2.2.2.2.2.2.1,v.2.2.2.2.2.2.2.2.2.2.1)),(v.2.2.2.2.2.2.2.2.2.2.2.1,(v.2.2.2.2.2.2.2.2.2.2.2.2.1,(v.2.2.2.2.2.2.2.2.2.2.2.2.2.1,v.2.2.2.2.2.2.2.2.2.2.2.2.2.2.1))))))),(v.2.2.2.2.2.2.2.2.2.2.2.2.2.2.2.1,v.2.2.2.2.2.2.2.2.2.2.2.2.2.2.2.2.1))) fun y3 =>
  k0 (v.1,y3,v.2.2.1,v.2.2.2.1,v.2.2.2.2.1,v.2.2.2.2.2.1,v.2.2.2.2.2.2.1,v.2.2.2.2.2.2.2.1,v.2.2.2.2.2.2.2.2.1,v.2.2.2.2.2.2.2.2.2.1,v.2.2.2.2.2.2.2.2.2.2.1,v.2.2.2.2.2.2.2.2.2.2.2.1,v.2.2.2.2.2.2.2.2.2.2.2.2.1,v.2.2.2.2.2.2.2.2.2.2.2.2.2.1,v.2.2.2.2.2.2.2.2.2.2.2.2.2.2.1,())
 else
 k0 (v.1,v.2.1,v.2.2.1,v.2.2.2.1,v.2.2.2.2.1,v.2.2.2.2.2.1,v.2.2.2.2.2.2.1,v.2.2.2.2.2.2.2.1,v.2.2.2.2.2.2.2.2.1,v.2.2.2.2.2.2.2.2.2.1,v.2.2.2.2.2.2.2.2.2.2.1,v.2.2.2.2.2.2.2.2.2.2.2.1,v.2.2.2.2.2.2.2.2.2.2.2.2.1,v.2.2.2.2.2.2.2.2.2.2.2.2.2.1,v.2.2.2.2.2.2.2.2.2.2.2.2.2.2.1,())
noncomputable def f1033v0p0S (k:Nat):=partSum ⟨[(0,.one (.ptr 0 0)),(3,.one (.int .i64)),(5,.one (.ptr 2 0)),(6,.one (.ptr 3 0)),(8,.one (.str)),(9,.one (.int .i64))],[(0,.var 141 [.own 1,.emp,.int .i64]),(1,.row 5 (.int .u8) .plain),(2,.var 124 [.str,.int .i64,.int .i64,.int .i64,.int .i64,.int .i64,.int .i64,.str,.int .i64,.ro Y1]),(3,.var 119 [.int .i64,.str])],4,[some 0,some 1]⟩ ⟨[0,3,5,6,8,9],[],[]⟩ fun R K v=>f1033v0p0 k (fun w=>K .normal (encSt ⟨[(0,.one (.ptr 0 0)),(3,.one (.int .i64)),(5,.one (.ptr 2 0)),(8,.one (.str)),(9,.one (.int .i64))],[(0,.var 141 [.own 1,.emp,.int .i64]),(1,.row 5 (.int .u8) .plain),(2,.var 124 [.str,.int .i64,.int .i64,.int .i64,.int .i64,.int .i64,.int .i64,.str,.int .i64,.ro Y1])],3,[some 0,some 1]⟩ w)) v
theorem f1033v0p0O (k:Nat):SumO P Tryz.f133 14 (f1033v0p0S k):=pt tm (f1033v0T k) ⟨[0,3,5,8,9],[],[]⟩ SumsOk.nil fun _ _ _=>by kernel_rfl
noncomputable def f1033v0p1 {R:Type}(k:Nat)(k0:D57->Option R)(v:D57):Option R :=
 Option.bind (f1092F k (v.2.2.2.2.2.1,(v.2.2.2.2.2.2.1,(v.2.2.2.2.2.2.2.1,((v.2.2.2.2.2.2.2.2.1,(v.2.2.2.2.2.2.2.2.2.1,v.2.2.2.2.2.2.2.2.2.2.1)),(v.2.2.2.2.2.2.2.2.2.2.2.1,(v.2.2.2.2.2.2.2.2.2.2.2.2.1,(v.2.2.2.2.2.2.2.2.2.2.2.2.2.1,v.2.2.2.2.2.2.2.2.2.2.2.2.2.2.1)))))))) fun y6 =>
 bif y6 then
  k0 (v.1,v.2.1,(96:Int),v.2.2.2.1,v.2.2.2.2.1,v.2.2.2.2.2.1,v.2.2.2.2.2.2.1,v.2.2.2.2.2.2.2.1,v.2.2.2.2.2.2.2.2.1,v.2.2.2.2.2.2.2.2.2.1,v.2.2.2.2.2.2.2.2.2.2.1,v.2.2.2.2.2.2.2.2.2.2.2.1,v.2.2.2.2.2.2.2.2.2.2.2.2.1,v.2.2.2.2.2.2.2.2.2.2.2.2.2.1,v.2.2.2.2.2.2.2.2.2.2.2.2.2.2.1,())
 else
 k0 (v.1,v.2.1,v.2.2.1,v.2.2.2.1,v.2.2.2.2.1,v.2.2.2.2.2.1,v.2.2.2.2.2.2.1,v.2.2.2.2.2.2.2.1,v.2.2.2.2.2.2.2.2.1,v.2.2.2.2.2.2.2.2.2.1,v.2.2.2.2.2.2.2.2.2.2.1,v.2.2.2.2.2.2.2.2.2.2.2.1,v.2.2.2.2.2.2.2.2.2.2.2.2.1,v.2.2.2.2.2.2.2.2.2.2.2.2.2.1,v.2.2.2.2.2.2.2.2.2.2.2.2.2.2.1,())
noncomputable def f1033v0p1S (k:Nat):=partSum ⟨[(0,.one (.ptr 0 0)),(3,.one (.int .i64)),(5,.one (.ptr 2 0)),(8,.one (.str)),(9,.one (.int .i64))],[(0,.var 141 [.own 1,.emp,.int .i64]),(1,.row 5 (.int .u8) .plain),(2,.var 124 [.str,.int .i64,.int .i64,.int .i64,.int .i64,.int .i64,.int .i64,.str,.int .i64,.ro Y1])],3,[some 0,some 1]⟩ ⟨[0,3,5,8,9],[],[]⟩ fun R K v=>f1033v0p1 k (fun w=>K .normal (encSt ⟨[(0,.one (.ptr 0 0)),(3,.one (.int .i64)),(5,.one (.ptr 2 0)),(8,.one (.str)),(9,.one (.int .i64))],[(0,.var 141 [.own 1,.emp,.int .i64]),(1,.row 5 (.int .u8) .plain),(2,.var 124 [.str,.int .i64,.int .i64,.int .i64,.int .i64,.int .i64,.int .i64,.str,.int .i64,.ro Y1])],3,[some 0,some 1]⟩ w)) v
theorem f1033v0p1O (k:Nat):SumO P Tryz.f133 490 (f1033v0p1S k):=pt tm (f1033v0T k) ⟨[0,3,5,8,9],[],[]⟩ SumsOk.nil fun _ _ _=>by kernel_rfl
noncomputable def f1033v0p2 {R:Type}(k:Nat)(k0:D58->Option R)(k1:D57->Option R)(v:D57):Option R :=
 Option.bind (f1044F k (v.2.2.2.2.2.1,(v.2.2.2.2.2.2.1,(v.2.2.2.2.2.2.2.1,((v.2.2.2.2.2.2.2.2.1,(v.2.2.2.2.2.2.2.2.2.1,v.2.2.2.2.2.2.2.2.2.2.1)),(v.2.2.2.2.2.2.2.2.2.2.2.1,(v.2.2.2.2.2.2.2.2.2.2.2.2.1,(v.2.2.2.2.2.2.2.2.2.2.2.2.2.1,v.2.2.2.2.2.2.2.2.2.2.2.2.2.2.1)))))))) fun y5 =>
 bif y5 then
  f1033v0p1 k
   (fun (w7:D57) =>
    let t8:=[(19:Int),(IntKind.u8.wrap (IntKind.i64.wrap (w7.2.2.2.2.2.2.1+w7.1))),(IntKind.u8.wrap w7.2.2.2.2.2.2.2.1)]
    k0 (w7.1,w7.2.1,w7.2.2.1,w7.2.2.2.1,w7.2.2.2.2.1,w7.2.2.2.2.2.1,w7.2.2.2.2.2.2.1,w7.2.2.2.2.2.2.2.1,w7.2.2.2.2.2.2.2.2.1,w7.2.2.2.2.2.2.2.2.2.1,w7.2.2.2.2.2.2.2.2.2.2.1,w7.2.2.2.2.2.2.2.2.2.2.2.1,w7.2.2.2.2.2.2.2.2.2.2.2.2.1,w7.2.2.2.2.2.2.2.2.2.2.2.2.2.1,w7.2.2.2.2.2.2.2.2.2.2.2.2.2.2.1,t8,()))
   (v.1,v.2.1,(64:Int),v.2.2.2.1,v.2.2.2.2.1,v.2.2.2.2.2.1,v.2.2.2.2.2.2.1,v.2.2.2.2.2.2.2.1,v.2.2.2.2.2.2.2.2.1,v.2.2.2.2.2.2.2.2.2.1,v.2.2.2.2.2.2.2.2.2.2.1,v.2.2.2.2.2.2.2.2.2.2.2.1,v.2.2.2.2.2.2.2.2.2.2.2.2.1,v.2.2.2.2.2.2.2.2.2.2.2.2.2.1,v.2.2.2.2.2.2.2.2.2.2.2.2.2.2.1,())
 else
 k1 (v.1,v.2.1,v.2.2.1,v.2.2.2.1,v.2.2.2.2.1,v.2.2.2.2.2.1,v.2.2.2.2.2.2.1,v.2.2.2.2.2.2.2.1,v.2.2.2.2.2.2.2.2.1,v.2.2.2.2.2.2.2.2.2.1,v.2.2.2.2.2.2.2.2.2.2.1,v.2.2.2.2.2.2.2.2.2.2.2.1,v.2.2.2.2.2.2.2.2.2.2.2.2.1,v.2.2.2.2.2.2.2.2.2.2.2.2.2.1,v.2.2.2.2.2.2.2.2.2.2.2.2.2.2.1,())
noncomputable def f1033v0p2S (k:Nat):=partSum ⟨[(0,.one (.ptr 0 0)),(3,.one (.int .i64)),(5,.one (.ptr 2 0)),(8,.one (.str)),(9,.one (.int .i64))],[(0,.var 141 [.own 1,.emp,.int .i64]),(1,.row 5 (.int .u8) .plain),(2,.var 124 [.str,.int .i64,.int .i64,.int .i64,.int .i64,.int .i64,.int .i64,.str,.int .i64,.ro Y1])],3,[some 0,some 1]⟩ ⟨[0,3,5,8,9],[],[]⟩ fun R K v=>f1033v0p2 k (fun w=>K .normal (encSt ⟨[(0,.one (.ptr 0 0)),(3,.one (.int .i64)),(5,.one (.ptr 2 0)),(8,.one (.str)),(9,.one (.int .i64))],[(0,.var 141 [.own 1,.own 3,.int .i64]),(1,.row 5 (.int .u8) .plain),(2,.var 124 [.str,.int .i64,.int .i64,.int .i64,.int .i64,.int .i64,.int .i64,.str,.int .i64,.ro Y1]),(3,.row 5 (.int .u8) .plain)],4,[some 0,some 1]⟩ w)) (fun w=>K .normal (encSt ⟨[(0,.one (.ptr 0 0)),(3,.one (.int .i64)),(5,.one (.ptr 2 0)),(8,.one (.str)),(9,.one (.int .i64))],[(0,.var 141 [.own 1,.emp,.int .i64]),(1,.row 5 (.int .u8) .plain),(2,.var 124 [.str,.int .i64,.int .i64,.int .i64,.int .i64,.int .i64,.int .i64,.str,.int .i64,.ro Y1])],3,[some 0,some 1]⟩ w)) v
theorem f1033v0p2O (k:Nat):SumO P Tryz.f133 30 (f1033v0p2S k):=pt tm (f1033v0T k) ⟨[0,3,5,8,9],[],[]⟩ (SumsOk.nil |>.s (f1033v0p1O k) (by kernel_rfl)) fun _ _ _=>by kernel_rfl
noncomputable def f1033v0F (k:Nat)(x:D61):Option (Sum (D60) (Int×List Int×Unit)) :=
 f1033v0p0 k
  (fun (w4:D57) =>
   f1033v0p2 k
    (fun (w9:D58) =>
     Option.bind (f1024F k w9.2.1) fun y10 =>
     Option.bind (f968F k ((!y10),(19:Int))) fun y11 =>
     Option.bind (f966F k [w9.2.2.2.1,y11]) fun y12 =>
     let t13:=(IntKind.u8.wrap (IntKind.i64.wrap ((32:Int)+w9.2.2.2.2.2.2.2.2.2.2.2.2.2.1)))
     let t14:=[(17:Int),(IntKind.u8.wrap (IntKind.i64.wrap (w9.2.2.2.2.2.2.1+w9.1))),(IntKind.u8.wrap (IntKind.i64.wrap (w9.2.2.2.2.2.2.2.1 - (1:Int)))),(29:Int),(IntKind.u8.wrap w9.2.2.1),t13,(IntKind.u8.wrap (w9.2.1.size:Int))]
     bif (decide ((w9.2.2.2.2.1.length+t14.length)*1<=140737488355328)&&decide (w9.2.2.2.2.1.length+t14.length<=9223372036854775807)) then
     bif (decide (((w9.2.2.2.2.1++t14).length+(bytesOf w9.2.1).length)*1<=140737488355328)&&decide ((w9.2.2.2.2.1++t14).length+(bytesOf w9.2.1).length<=9223372036854775807)) then
     some (.inl (y12,((w9.2.2.2.2.1++t14)++(bytesOf w9.2.1)),w9.2.2.2.2.2.2.2.2.2.2.2.2.2.2.2.1,()))
     else none
     else none)
    (fun (w15:D57) =>
     Option.bind (f1024F k w15.2.1) fun y16 =>
     Option.bind (f968F k ((!y16),(19:Int))) fun y17 =>
     Option.bind (f966F k [w15.2.2.2.1,y17]) fun y18 =>
     let t19:=(IntKind.u8.wrap (IntKind.i64.wrap ((32:Int)+w15.2.2.2.2.2.2.2.2.2.2.2.2.2.1)))
     let t20:=[(17:Int),(IntKind.u8.wrap (IntKind.i64.wrap (w15.2.2.2.2.2.2.1+w15.1))),(IntKind.u8.wrap (IntKind.i64.wrap (w15.2.2.2.2.2.2.2.1 - (1:Int)))),(29:Int),(IntKind.u8.wrap w15.2.2.1),t19,(IntKind.u8.wrap (w15.2.1.size:Int))]
     bif (decide ((w15.2.2.2.2.1.length+t20.length)*1<=140737488355328)&&decide (w15.2.2.2.2.1.length+t20.length<=9223372036854775807)) then
     bif (decide (((w15.2.2.2.2.1++t20).length+(bytesOf w15.2.1).length)*1<=140737488355328)&&decide ((w15.2.2.2.2.1++t20).length+(bytesOf w15.2.1).length<=9223372036854775807)) then
     some (.inr (y18,((w15.2.2.2.2.1++t20)++(bytesOf w15.2.1)),()))
     else none
     else none)
    (w4.1,w4.2.1,w4.2.2.1,w4.2.2.2.1,w4.2.2.2.2.1,w4.2.2.2.2.2.1,w4.2.2.2.2.2.2.1,w4.2.2.2.2.2.2.2.1,w4.2.2.2.2.2.2.2.2.1,w4.2.2.2.2.2.2.2.2.2.1,w4.2.2.2.2.2.2.2.2.2.2.1,w4.2.2.2.2.2.2.2.2.2.2.2.1,w4.2.2.2.2.2.2.2.2.2.2.2.2.1,w4.2.2.2.2.2.2.2.2.2.2.2.2.2.1,w4.2.2.2.2.2.2.2.2.2.2.2.2.2.2.1,()))
  (x.2.2.2.2.2.2.2.2.2.2.2.2.1,x.2.2.2.2.2.2.2.1,(0:Int),x.2.2.2.2.2.2.2.2.2.2.2.2.2.1,x.2.2.2.2.2.2.2.2.2.2.2.2.2.2.1,x.1,x.2.1,x.2.2.1,x.2.2.2.1,x.2.2.2.2.1,x.2.2.2.2.2.1,x.2.2.2.2.2.2.1,x.2.2.2.2.2.2.2.1,x.2.2.2.2.2.2.2.2.1,x.2.2.2.2.2.2.2.2.2.1,x.2.2.2.2.2.2.2.2.2.2.1,x.2.2.2.2.2.2.2.2.2.2.2.1,())
theorem f1033v0Ok (k:Nat):GnV2 P 133 f1033v0I f1033v0U f1033v0W (f1033v0F k) :=
 gs2 tm (f1033v0T k) Tryz.func133 (by kernel_rfl) (SumsOk.nil |>.s (f1033v0p2O k) (by kernel_rfl) |>.s (f1033v0p1O k) (by kernel_rfl) |>.s (f1033v0p0O k) (by kernel_rfl)) [] [] [1] [1] none fun _=>by kernel_rfl
noncomputable def f1033v1I:Shape:=⟨[(0,.one (.ptr 0 0)),(1,.agg [.str,.int .i64,.int .i64,.int .i64,.int .i64,.int .i64,.int .i64,.str,.int .i64,.ro Y1]),(2,.agg [.int .i64,.str]),(3,.one (.int .i64))],[(0,.var 141 [.own 1,.own 2,.int .i64]),(1,.row 5 (.int .u8) .plain),(2,.row 5 (.int .u8) .plain)],3,[]⟩
noncomputable def f1033v1U:Shape:=⟨[],[(0,.var 141 [.own 3,.own 4,.int .i64]),(3,.row 5 (.int .u8) .plain),(4,.row 5 (.int .u8) .plain)],5,[]⟩
noncomputable def f1033v1T (k:Nat):TB P:=TB.nil |>.u (f1092Ok k) |>.u (f1091Ok k) |>.u (f1050Ok k) |>.u (f1044Ok k) |>.u (f1024Ok k) |>.u (f73V k) |>.u (f968Ok k) |>.u (f966Ok k)
noncomputable def f1033v1p0 {R:Type}(k:Nat)(k0:D62->Option R)(v:D63):Option R :=
 bif (v.2.2.2.2.2.2.2.2.2.2.2.2.1==(2:Int)) then
  Option.bind (f1050F k (v.2.2.2.2.2.2.1,(v.2.2.2.2.2.2.2.1,(v.2.2.2.2.2.2.2.2.1,((v.2.2.2.2.2.2.2.2.2.1,(v.2.2.2.2.2.2.2.2.2.2.1,v.2.2.2.2.2.2.2.2.2.2.2.1)),(v.2.2.2.2.2.2.2.2.2.2.2.2.1,(v.2.2.2.2.2.2.2.2.2.2.2.2.2.1,(v.2.2.2.2.2.2.2.2.2.2.2.2.2.2.1,v.2.2.2.2.2.2.2.2.2.2.2.2.2.2.2.1)))))))) fun y1 =>
  Option.bind (f73F k ((⟨#[32]⟩:ByteArray),y1)) fun y2 =>
  k0 (v.1,y2,v.2.2.1,v.2.2.2.1,v.2.2.2.2.1,v.2.2.2.2.2.1,v.2.2.2.2.2.2.1,v.2.2.2.2.2.2.2.1,v.2.2.2.2.2.2.2.2.1,v.2.2.2.2.2.2.2.2.2.1,v.2.2.2.2.2.2.2.2.2.2.1,v.2.2.2.2.2.2.2.2.2.2.2.1,v.2.2.2.2.2.2.2.2.2.2.2.2.1,v.2.2.2.2.2.2.2.2.2.2.2.2.2.1,v.2.2.2.2.2.2.2.2.2.2.2.2.2.2.1,v.2.2.2.2.2.2.2.2.2.2.2.2.2.2.2.1,())
 else
 bif (v.2.2.2.2.2.2.2.2.2.2.2.2.1 !=(0:Int)) then
  Option.bind (f1091F k ((v.2.2.2.2.2.2.1,(v.2.2.2.2.2.2.2.1,(v.2.2.2.2.2.2.2.2.1,((v.2.2.2.2.2.2.2.2.2.1,(v.2.2.2.2.2.2.2.2.2.2.1,v.2.2.2.2.2.2.2.2.2.2.2.1)),(v.2.2.2.2.2.2.2.2.2.2.2.2.1,(v.2.2.2.2.2.2.2.2.2.2.2.2.2.1,(v.2.2.2.2.2.2.2.2.2.2.2.2.2.2.1,v.2.2.2.2.2.2.2.2.2.2.2.2.2.2.2.1))))))),(v.2.2.2.2.2.2.2.2.2.2.2.2.2.2.2.2.1,v.2.2.2.2.2.2.2.2.2.2.2.2.2.2.2.2.2.1))) fun y3 =>
  k0 (v.1,y3,v.2.2.1,v.2.2.2.1,v.2.2.2.2.1,v.2.2.2.2.2.1,v.2.2.2.2.2.2.1,v.2.2.2.2.2.2.2.1,v.2.2.2.2.2.2.2.2.1,v.2.2.2.2.2.2.2.2.2.1,v.2.2.2.2.2.2.2.2.2.2.1,v.2.2.2.2.2.2.2.2.2.2.2.1,v.2.2.2.2.2.2.2.2.2.2.2.2.1,v.2.2.2.2.2.2.2.2.2.2.2.2.2.1,v.2.2.2.2.2.2.2.2.2.2.2.2.2.2.1,v.2.2.2.2.2.2.2.2.2.2.2.2.2.2.2.1,())
 else
 k0 (v.1,v.2.1,v.2.2.1,v.2.2.2.1,v.2.2.2.2.1,v.2.2.2.2.2.1,v.2.2.2.2.2.2.1,v.2.2.2.2.2.2.2.1,v.2.2.2.2.2.2.2.2.1,v.2.2.2.2.2.2.2.2.2.1,v.2.2.2.2.2.2.2.2.2.2.1,v.2.2.2.2.2.2.2.2.2.2.2.1,v.2.2.2.2.2.2.2.2.2.2.2.2.1,v.2.2.2.2.2.2.2.2.2.2.2.2.2.1,v.2.2.2.2.2.2.2.2.2.2.2.2.2.2.1,v.2.2.2.2.2.2.2.2.2.2.2.2.2.2.2.1,())
noncomputable def f1033v1p0S (k:Nat):=partSum ⟨[(0,.one (.ptr 0 0)),(3,.one (.int .i64)),(5,.one (.ptr 3 0)),(6,.one (.ptr 4 0)),(8,.one (.str)),(9,.one (.int .i64))],[(0,.var 141 [.own 1,.own 2,.int .i64]),(1,.row 5 (.int .u8) .plain),(2,.row 5 (.int .u8) .plain),(3,.var 124 [.str,.int .i64,.int .i64,.int .i64,.int .i64,.int .i64,.int .i64,.str,.int .i64,.ro Y1]),(4,.var 119 [.int .i64,.str])],5,[some 0,some 1,some 2]⟩ ⟨[0,3,5,6,8,9],[],[]⟩ fun R K v=>f1033v1p0 k (fun w=>K .normal (encSt ⟨[(0,.one (.ptr 0 0)),(3,.one (.int .i64)),(5,.one (.ptr 3 0)),(8,.one (.str)),(9,.one (.int .i64))],[(0,.var 141 [.own 1,.own 2,.int .i64]),(1,.row 5 (.int .u8) .plain),(2,.row 5 (.int .u8) .plain),(3,.var 124 [.str,.int .i64,.int .i64,.int .i64,.int .i64,.int .i64,.int .i64,.str,.int .i64,.ro Y1])],4,[some 0,some 1,some 2]⟩ w)) v
theorem f1033v1p0O (k:Nat):SumO P Tryz.f133 14 (f1033v1p0S k):=pt tm (f1033v1T k) ⟨[0,3,5,8,9],[],[]⟩ SumsOk.nil fun _ _ _=>by kernel_rfl
noncomputable def f1033v1p1 {R:Type}(k:Nat)(k0:D62->Option R)(v:D62):Option R :=
 Option.bind (f1092F k (v.2.2.2.2.2.2.1,(v.2.2.2.2.2.2.2.1,(v.2.2.2.2.2.2.2.2.1,((v.2.2.2.2.2.2.2.2.2.1,(v.2.2.2.2.2.2.2.2.2.2.1,v.2.2.2.2.2.2.2.2.2.2.2.1)),(v.2.2.2.2.2.2.2.2.2.2.2.2.1,(v.2.2.2.2.2.2.2.2.2.2.2.2.2.1,(v.2.2.2.2.2.2.2.2.2.2.2.2.2.2.1,v.2.2.2.2.2.2.2.2.2.2.2.2.2.2.2.1)))))))) fun y6 =>
 bif y6 then
  k0 (v.1,v.2.1,(96:Int),v.2.2.2.1,v.2.2.2.2.1,v.2.2.2.2.2.1,v.2.2.2.2.2.2.1,v.2.2.2.2.2.2.2.1,v.2.2.2.2.2.2.2.2.1,v.2.2.2.2.2.2.2.2.2.1,v.2.2.2.2.2.2.2.2.2.2.1,v.2.2.2.2.2.2.2.2.2.2.2.1,v.2.2.2.2.2.2.2.2.2.2.2.2.1,v.2.2.2.2.2.2.2.2.2.2.2.2.2.1,v.2.2.2.2.2.2.2.2.2.2.2.2.2.2.1,v.2.2.2.2.2.2.2.2.2.2.2.2.2.2.2.1,())
 else
 k0 (v.1,v.2.1,v.2.2.1,v.2.2.2.1,v.2.2.2.2.1,v.2.2.2.2.2.1,v.2.2.2.2.2.2.1,v.2.2.2.2.2.2.2.1,v.2.2.2.2.2.2.2.2.1,v.2.2.2.2.2.2.2.2.2.1,v.2.2.2.2.2.2.2.2.2.2.1,v.2.2.2.2.2.2.2.2.2.2.2.1,v.2.2.2.2.2.2.2.2.2.2.2.2.1,v.2.2.2.2.2.2.2.2.2.2.2.2.2.1,v.2.2.2.2.2.2.2.2.2.2.2.2.2.2.1,v.2.2.2.2.2.2.2.2.2.2.2.2.2.2.2.1,())
noncomputable def f1033v1p1S (k:Nat):=partSum ⟨[(0,.one (.ptr 0 0)),(3,.one (.int .i64)),(5,.one (.ptr 3 0)),(8,.one (.str)),(9,.one (.int .i64))],[(0,.var 141 [.own 1,.own 2,.int .i64]),(1,.row 5 (.int .u8) .plain),(2,.row 5 (.int .u8) .plain),(3,.var 124 [.str,.int .i64,.int .i64,.int .i64,.int .i64,.int .i64,.int .i64,.str,.int .i64,.ro Y1])],4,[some 0,some 1,some 2]⟩ ⟨[0,3,5,8,9],[],[]⟩ fun R K v=>f1033v1p1 k (fun w=>K .normal (encSt ⟨[(0,.one (.ptr 0 0)),(3,.one (.int .i64)),(5,.one (.ptr 3 0)),(8,.one (.str)),(9,.one (.int .i64))],[(0,.var 141 [.own 1,.own 2,.int .i64]),(1,.row 5 (.int .u8) .plain),(2,.row 5 (.int .u8) .plain),(3,.var 124 [.str,.int .i64,.int .i64,.int .i64,.int .i64,.int .i64,.int .i64,.str,.int .i64,.ro Y1])],4,[some 0,some 1,some 2]⟩ w)) v
theorem f1033v1p1O (k:Nat):SumO P Tryz.f133 490 (f1033v1p1S k):=pt tm (f1033v1T k) ⟨[0,3,5,8,9],[],[]⟩ SumsOk.nil fun _ _ _=>by kernel_rfl
noncomputable def f1033v1p2 {R:Type}(k:Nat)(k0:D62->Option R)(v:D62):Option R :=
 Option.bind (f1044F k (v.2.2.2.2.2.2.1,(v.2.2.2.2.2.2.2.1,(v.2.2.2.2.2.2.2.2.1,((v.2.2.2.2.2.2.2.2.2.1,(v.2.2.2.2.2.2.2.2.2.2.1,v.2.2.2.2.2.2.2.2.2.2.2.1)),(v.2.2.2.2.2.2.2.2.2.2.2.2.1,(v.2.2.2.2.2.2.2.2.2.2.2.2.2.1,(v.2.2.2.2.2.2.2.2.2.2.2.2.2.2.1,v.2.2.2.2.2.2.2.2.2.2.2.2.2.2.2.1)))))))) fun y5 =>
 bif y5 then
  f1033v1p1 k
   (fun (w7:D62) =>
    bif (decide (0<w7.2.2.2.2.2.1.length)) then
    k0 (w7.1,w7.2.1,w7.2.2.1,w7.2.2.2.1,w7.2.2.2.2.1,w7.2.2.2.2.2.1,w7.2.2.2.2.2.2.1,w7.2.2.2.2.2.2.2.1,w7.2.2.2.2.2.2.2.2.1,w7.2.2.2.2.2.2.2.2.2.1,w7.2.2.2.2.2.2.2.2.2.2.1,w7.2.2.2.2.2.2.2.2.2.2.2.1,w7.2.2.2.2.2.2.2.2.2.2.2.2.1,w7.2.2.2.2.2.2.2.2.2.2.2.2.2.1,w7.2.2.2.2.2.2.2.2.2.2.2.2.2.2.1,w7.2.2.2.2.2.2.2.2.2.2.2.2.2.2.2.1,())
    else none)
   (v.1,v.2.1,(64:Int),v.2.2.2.1,v.2.2.2.2.1,v.2.2.2.2.2.1,v.2.2.2.2.2.2.1,v.2.2.2.2.2.2.2.1,v.2.2.2.2.2.2.2.2.1,v.2.2.2.2.2.2.2.2.2.1,v.2.2.2.2.2.2.2.2.2.2.1,v.2.2.2.2.2.2.2.2.2.2.2.1,v.2.2.2.2.2.2.2.2.2.2.2.2.1,v.2.2.2.2.2.2.2.2.2.2.2.2.2.1,v.2.2.2.2.2.2.2.2.2.2.2.2.2.2.1,v.2.2.2.2.2.2.2.2.2.2.2.2.2.2.2.1,())
 else
 k0 (v.1,v.2.1,v.2.2.1,v.2.2.2.1,v.2.2.2.2.1,v.2.2.2.2.2.1,v.2.2.2.2.2.2.1,v.2.2.2.2.2.2.2.1,v.2.2.2.2.2.2.2.2.1,v.2.2.2.2.2.2.2.2.2.1,v.2.2.2.2.2.2.2.2.2.2.1,v.2.2.2.2.2.2.2.2.2.2.2.1,v.2.2.2.2.2.2.2.2.2.2.2.2.1,v.2.2.2.2.2.2.2.2.2.2.2.2.2.1,v.2.2.2.2.2.2.2.2.2.2.2.2.2.2.1,v.2.2.2.2.2.2.2.2.2.2.2.2.2.2.2.1,())
noncomputable def f1033v1p2S (k:Nat):=partSum ⟨[(0,.one (.ptr 0 0)),(3,.one (.int .i64)),(5,.one (.ptr 3 0)),(8,.one (.str)),(9,.one (.int .i64))],[(0,.var 141 [.own 1,.own 2,.int .i64]),(1,.row 5 (.int .u8) .plain),(2,.row 5 (.int .u8) .plain),(3,.var 124 [.str,.int .i64,.int .i64,.int .i64,.int .i64,.int .i64,.int .i64,.str,.int .i64,.ro Y1])],4,[some 0,some 1,some 2]⟩ ⟨[0,3,5,8,9],[],[]⟩ fun R K v=>f1033v1p2 k (fun w=>K .normal (encSt ⟨[(0,.one (.ptr 0 0)),(3,.one (.int .i64)),(5,.one (.ptr 3 0)),(8,.one (.str)),(9,.one (.int .i64))],[(0,.var 141 [.own 1,.own 2,.int .i64]),(1,.row 5 (.int .u8) .plain),(2,.row 5 (.int .u8) .plain),(3,.var 124 [.str,.int .i64,.int .i64,.int .i64,.int .i64,.int .i64,.int .i64,.str,.int .i64,.ro Y1])],4,[some 0,some 1,some 2]⟩ w)) v
theorem f1033v1p2O (k:Nat):SumO P Tryz.f133 30 (f1033v1p2S k):=pt tm (f1033v1T k) ⟨[0,3,5,8,9],[],[]⟩ (SumsOk.nil |>.s (f1033v1p1O k) (by kernel_rfl)) fun _ _ _=>by kernel_rfl
noncomputable def f1033v1F (k:Nat)(x:D64):Option (D60) :=
 f1033v1p0 k
  (fun (w4:D62) =>
   f1033v1p2 k
    (fun (w8:D62) =>
     Option.bind (f1024F k w8.2.1) fun y9 =>
     Option.bind (f968F k ((!y9),(19:Int))) fun y10 =>
     Option.bind (f966F k [w8.2.2.2.1,y10]) fun y11 =>
     let t12:=(IntKind.u8.wrap (IntKind.i64.wrap (w8.2.2.2.2.2.2.2.2.1 - (1:Int))))
     let t13:=(IntKind.u8.wrap (IntKind.i64.wrap ((32:Int)+w8.2.2.2.2.2.2.2.2.2.2.2.2.2.2.1)))
     let t14:=[(17:Int),(IntKind.u8.wrap (IntKind.i64.wrap (w8.2.2.2.2.2.2.2.1+w8.1))),t12,(29:Int),(IntKind.u8.wrap w8.2.2.1),t13,(IntKind.u8.wrap (w8.2.1.size:Int))]
     bif (decide ((w8.2.2.2.2.1.length+t14.length)*1<=140737488355328)&&decide (w8.2.2.2.2.1.length+t14.length<=9223372036854775807)) then
     bif (decide (((w8.2.2.2.2.1++t14).length+(bytesOf w8.2.1).length)*1<=140737488355328)&&decide ((w8.2.2.2.2.1++t14).length+(bytesOf w8.2.1).length<=9223372036854775807)) then
     some (y11,((w8.2.2.2.2.1++t14)++(bytesOf w8.2.1)),w8.2.2.2.2.2.1,())
     else none
     else none)
    (w4.1,w4.2.1,w4.2.2.1,w4.2.2.2.1,w4.2.2.2.2.1,w4.2.2.2.2.2.1,w4.2.2.2.2.2.2.1,w4.2.2.2.2.2.2.2.1,w4.2.2.2.2.2.2.2.2.1,w4.2.2.2.2.2.2.2.2.2.1,w4.2.2.2.2.2.2.2.2.2.2.1,w4.2.2.2.2.2.2.2.2.2.2.2.1,w4.2.2.2.2.2.2.2.2.2.2.2.2.1,w4.2.2.2.2.2.2.2.2.2.2.2.2.2.1,w4.2.2.2.2.2.2.2.2.2.2.2.2.2.2.1,w4.2.2.2.2.2.2.2.2.2.2.2.2.2.2.2.1,()))
  (x.2.2.2.2.2.2.2.2.2.2.2.2.1,x.2.2.2.2.2.2.2.1,(0:Int),x.2.2.2.2.2.2.2.2.2.2.2.2.2.1,x.2.2.2.2.2.2.2.2.2.2.2.2.2.2.1,x.2.2.2.2.2.2.2.2.2.2.2.2.2.2.2.1,x.1,x.2.1,x.2.2.1,x.2.2.2.1,x.2.2.2.2.1,x.2.2.2.2.2.1,x.2.2.2.2.2.2.1,x.2.2.2.2.2.2.2.1,x.2.2.2.2.2.2.2.2.1,x.2.2.2.2.2.2.2.2.2.1,x.2.2.2.2.2.2.2.2.2.2.1,x.2.2.2.2.2.2.2.2.2.2.2.1,())
theorem f1033v1Ok (k:Nat):GnV P 133 f1033v1I f1033v1U (f1033v1F k) :=
 gs tm (f1033v1T k) Tryz.func133 (by kernel_rfl) (SumsOk.nil |>.s (f1033v1p2O k) (by kernel_rfl) |>.s (f1033v1p1O k) (by kernel_rfl) |>.s (f1033v1p0O k) (by kernel_rfl)) [] [1,2] none fun _=>by kernel_rfl
noncomputable def f981v0I:Shape:=⟨[(0,.one (.ptr 0 0)),(1,.agg [.str,.ro (.pair .str Y5),.ro (.pair (.int .i64) Y1)]),(2,.one (.ro Y7)),(3,.one (.ro (.int .i64))),(4,.one (.int .i64))],[(0,.var 141 [.own 1,.emp,.int .i64]),(1,.row 5 (.int .u8) .plain)],2,[]⟩
noncomputable def f981v0U:Shape:=⟨[],[(0,.var 141 [.own 2,.own 3,.int .i64]),(2,.row 5 (.int .u8) .plain),(3,.row 5 (.int .u8) .plain)],4,[]⟩
noncomputable def f981v0W:Shape:=⟨[],[(0,.var 141 [.own 2,.emp,.int .i64]),(2,.row 5 (.int .u8) .plain)],3,[]⟩
noncomputable def f981v0T (k:Nat):TB P:=TB.nil |>.c ((f1033v1Ok k).e.or (f1033v0Ok k).e) |>.u (f1032Ok k)
noncomputable def f981v0l0H:Shape:=⟨[(0,.one (.ptr 0 0)),(2,.one (.ro Y7)),(3,.one (.ro (.int .i64))),(4,.one (.int .i64)),(10,.one (.int .i64)),(15,.one (.ro (.pair .str Y5))),(16,.one (.int .i64)),(17,.one (.int .i64))],[(0,.var 141 [.own 1,.own 2,.int .i64]),(1,.row 5 (.int .u8) .plain),(2,.row 5 (.int .u8) .plain)],3,[some 0,none]⟩
noncomputable def f981v0l0X0:Shape:=⟨[],[(0,.var 141 [.own 1,.own 2,.int .i64]),(1,.row 5 (.int .u8) .plain),(2,.row 5 (.int .u8) .plain)],3,[some 0,none]⟩
noncomputable def f981v0l0N:NoteR:=⟨[0,2,3,4,10,15,16,17],[],[]⟩
noncomputable def f981v0l0M:NoteR:=⟨[],[],[]⟩
noncomputable def f981v0l0C:Code:=firstC (codesAt 30 (codeOf Tryz.f81) 1)
noncomputable def f981v0l0s {R:Type}(k:Nat)(rec:D65->Option R)(k0:D60->Option R)(v:D65):Option R :=
 bif (decide (v.2.2.2.2.2.2.1<v.2.2.2.2.2.1)) then
  bif ((decide ((0:Int)<=v.2.2.2.2.2.2.1))&&(decide (v.2.2.2.2.2.2.1<(v.2.2.2.2.1.length:Int)))) then
  let t4:=(v.2.2.2.2.1.getD (Int.toNat v.2.2.2.2.2.2.1) (ByteArray.empty,((0:Int),((0:Int),(((0:Int),((0:Int),(0:Int))),((0:Int),(ByteArray.empty,((0:Int),[]))))))))
  bif (t4.2.2.2.2.1 !=(0:Int)) then
   bif ((decide ((0:Int)<=v.2.2.2.1))&&(decide (v.2.2.2.1<(v.1.length:Int)))) then
   Option.bind (f1032F k ((t4.1,(t4.2.1,(t4.2.2.1,((t4.2.2.2.1.1,(t4.2.2.2.1.2.1,t4.2.2.2.1.2.2)),(t4.2.2.2.2.1,(t4.2.2.2.2.2.1,(t4.2.2.2.2.2.2.1,t4.2.2.2.2.2.2.2))))))),v.2.1)) fun y5 =>
   bif y5 then
    Option.bind (f1033v1F k (t4.1,t4.2.1,t4.2.2.1,t4.2.2.2.1.1,t4.2.2.2.1.2.1,t4.2.2.2.1.2.2,t4.2.2.2.2.1,t4.2.2.2.2.2.1,t4.2.2.2.2.2.2.1,t4.2.2.2.2.2.2.2,(v.1.getD (Int.toNat v.2.2.2.1) ((0:Int),ByteArray.empty)).1,(v.1.getD (Int.toNat v.2.2.2.1) ((0:Int),ByteArray.empty)).2,v.2.2.1,v.2.2.2.2.2.2.2.1,v.2.2.2.2.2.2.2.2.1,v.2.2.2.2.2.2.2.2.2.1,())) fun y6 =>
    rec (v.1,v.2.1,v.2.2.1,(IntKind.i64.wrap (v.2.2.2.1+(1:Int))),v.2.2.2.2.1,v.2.2.2.2.2.1,(IntKind.i64.wrap (v.2.2.2.2.2.2.1+(1:Int))),y6.1,y6.2.1,y6.2.2.1,())
   else
   rec (v.1,v.2.1,v.2.2.1,(IntKind.i64.wrap (v.2.2.2.1+(1:Int))),v.2.2.2.2.1,v.2.2.2.2.2.1,(IntKind.i64.wrap (v.2.2.2.2.2.2.1+(1:Int))),v.2.2.2.2.2.2.2.1,v.2.2.2.2.2.2.2.2.1,v.2.2.2.2.2.2.2.2.2.1,())
   else none
  else
  Option.bind (f1032F k ((t4.1,(t4.2.1,(t4.2.2.1,((t4.2.2.2.1.1,(t4.2.2.2.1.2.1,t4.2.2.2.1.2.2)),(t4.2.2.2.2.1,(t4.2.2.2.2.2.1,(t4.2.2.2.2.2.2.1,t4.2.2.2.2.2.2.2))))))),v.2.1)) fun y7 =>
  bif y7 then
   Option.bind (f1033v1F k (t4.1,t4.2.1,t4.2.2.1,t4.2.2.2.1.1,t4.2.2.2.1.2.1,t4.2.2.2.1.2.2,t4.2.2.2.2.1,t4.2.2.2.2.2.1,t4.2.2.2.2.2.2.1,t4.2.2.2.2.2.2.2,(0:Int),ByteArray.empty,v.2.2.1,v.2.2.2.2.2.2.2.1,v.2.2.2.2.2.2.2.2.1,v.2.2.2.2.2.2.2.2.2.1,())) fun y8 =>
   rec (v.1,v.2.1,v.2.2.1,v.2.2.2.1,v.2.2.2.2.1,v.2.2.2.2.2.1,(IntKind.i64.wrap (v.2.2.2.2.2.2.1+(1:Int))),y8.1,y8.2.1,y8.2.2.1,())
  else
  rec (v.1,v.2.1,v.2.2.1,v.2.2.2.1,v.2.2.2.2.1,v.2.2.2.2.2.1,(IntKind.i64.wrap (v.2.2.2.2.2.2.1+(1:Int))),v.2.2.2.2.2.2.2.1,v.2.2.2.2.2.2.2.2.1,v.2.2.2.2.2.2.2.2.2.1,())
  else none
 else
 k0 (v.2.2.2.2.2.2.2.1,v.2.2.2.2.2.2.2.2.1,v.2.2.2.2.2.2.2.2.2.1,())
noncomputable def f981v0l0 {R:Type}(k:Nat)(k0:D60->Option R)(v:D65):Option R:=iterS (fun rec v=>f981v0l0s k rec k0 v) k v
noncomputable def f981v0l0S (k:Nat):Sum1:=loopSum f981v0l0H f981v0l0N k (fun R rec K v=>f981v0l0s k rec (fun w=>K (.exit 0) (encSt f981v0l0X0 w)) v)
theorem f981v0l0E (k:Nat)(R:Type)(rec:St->Option R)(K:X->St->Option R)(v:f981v0l0H.Den):evS tab (f981v0T k).t Tryz.f81.ntmps [] (bodyOf f981v0l0C) 60 (bodyK f981v0l0N f981v0l0M rec K) (encSt f981v0l0H v)=f981v0l0s k (fun v=>rec (encSt f981v0l0H v)) (fun w=>K (.exit 0) (encSt f981v0l0X0 w)) v:=by kernel_rfl
theorem f981v0l0I (k:Nat):SumsOk P Tryz.f81.ntmps [] (bodyOf f981v0l0C) 60:=SumsOk.nil
noncomputable def f981v0l1H:Shape:=⟨[(0,.one (.ptr 0 0)),(2,.one (.ro Y7)),(3,.one (.ro (.int .i64))),(4,.one (.int .i64)),(10,.one (.int .i64)),(15,.one (.ro (.pair .str Y5))),(16,.one (.int .i64)),(17,.one (.int .i64))],[(0,.var 141 [.own 1,.emp,.int .i64]),(1,.row 5 (.int .u8) .plain)],2,[some 0,none]⟩
noncomputable def f981v0l1X0:Shape:=⟨[],[(0,.var 141 [.own 1,.own 2,.int .i64]),(1,.row 5 (.int .u8) .plain),(2,.row 5 (.int .u8) .plain)],3,[some 0,none]⟩
noncomputable def f981v0l1X1:Shape:=⟨[],[(0,.var 141 [.own 1,.emp,.int .i64]),(1,.row 5 (.int .u8) .plain)],2,[some 0,none]⟩
noncomputable def f981v0l1N:NoteR:=⟨[0,2,3,4,10,15,16,17],[],[]⟩
noncomputable def f981v0l1M:NoteR:=⟨[],[],[]⟩
noncomputable def f981v0l1C:Code:=firstC (codesAt 30 (codeOf Tryz.f81) 1)
noncomputable def f981v0l1s {R:Type}(k:Nat)(rec:D66->Option R)(k0:D60->Option R)(k1:Int×List Int×Unit->Option R)(v:D66):Option R :=
 bif (decide (v.2.2.2.2.2.2.1<v.2.2.2.2.2.1)) then
  bif ((decide ((0:Int)<=v.2.2.2.2.2.2.1))&&(decide (v.2.2.2.2.2.2.1<(v.2.2.2.2.1.length:Int)))) then
  let t11:=(v.2.2.2.2.1.getD (Int.toNat v.2.2.2.2.2.2.1) (ByteArray.empty,((0:Int),((0:Int),(((0:Int),((0:Int),(0:Int))),((0:Int),(ByteArray.empty,((0:Int),[]))))))))
  bif (t11.2.2.2.2.1 !=(0:Int)) then
   bif ((decide ((0:Int)<=v.2.2.2.1))&&(decide (v.2.2.2.1<(v.1.length:Int)))) then
   Option.bind (f1032F k ((t11.1,(t11.2.1,(t11.2.2.1,((t11.2.2.2.1.1,(t11.2.2.2.1.2.1,t11.2.2.2.1.2.2)),(t11.2.2.2.2.1,(t11.2.2.2.2.2.1,(t11.2.2.2.2.2.2.1,t11.2.2.2.2.2.2.2))))))),v.2.1)) fun y12 =>
   bif y12 then
    altB (f1033v0F k (t11.1,t11.2.1,t11.2.2.1,t11.2.2.2.1.1,t11.2.2.2.1.2.1,t11.2.2.2.1.2.2,t11.2.2.2.2.1,t11.2.2.2.2.2.1,t11.2.2.2.2.2.2.1,t11.2.2.2.2.2.2.2,(v.1.getD (Int.toNat v.2.2.2.1) ((0:Int),ByteArray.empty)).1,(v.1.getD (Int.toNat v.2.2.2.1) ((0:Int),ByteArray.empty)).2,v.2.2.1,v.2.2.2.2.2.2.2.1,v.2.2.2.2.2.2.2.2.1,())) (fun y13 =>
     f981v0l0 k
      (fun (w14:D60) =>
       k0 (w14.1,w14.2.1,w14.2.2.1,()))
      (v.1,v.2.1,v.2.2.1,(IntKind.i64.wrap (v.2.2.2.1+(1:Int))),v.2.2.2.2.1,v.2.2.2.2.2.1,(IntKind.i64.wrap (v.2.2.2.2.2.2.1+(1:Int))),y13.1,y13.2.1,y13.2.2.1,())) fun y15 =>
    rec (v.1,v.2.1,v.2.2.1,(IntKind.i64.wrap (v.2.2.2.1+(1:Int))),v.2.2.2.2.1,v.2.2.2.2.2.1,(IntKind.i64.wrap (v.2.2.2.2.2.2.1+(1:Int))),y15.1,y15.2.1,())
   else
   rec (v.1,v.2.1,v.2.2.1,(IntKind.i64.wrap (v.2.2.2.1+(1:Int))),v.2.2.2.2.1,v.2.2.2.2.2.1,(IntKind.i64.wrap (v.2.2.2.2.2.2.1+(1:Int))),v.2.2.2.2.2.2.2.1,v.2.2.2.2.2.2.2.2.1,())
   else none
  else
  Option.bind (f1032F k ((t11.1,(t11.2.1,(t11.2.2.1,((t11.2.2.2.1.1,(t11.2.2.2.1.2.1,t11.2.2.2.1.2.2)),(t11.2.2.2.2.1,(t11.2.2.2.2.2.1,(t11.2.2.2.2.2.2.1,t11.2.2.2.2.2.2.2))))))),v.2.1)) fun y16 =>
  bif y16 then
   altB (f1033v0F k (t11.1,t11.2.1,t11.2.2.1,t11.2.2.2.1.1,t11.2.2.2.1.2.1,t11.2.2.2.1.2.2,t11.2.2.2.2.1,t11.2.2.2.2.2.1,t11.2.2.2.2.2.2.1,t11.2.2.2.2.2.2.2,(0:Int),ByteArray.empty,v.2.2.1,v.2.2.2.2.2.2.2.1,v.2.2.2.2.2.2.2.2.1,())) (fun y17 =>
    f981v0l0 k
     (fun (w18:D60) =>
      k0 (w18.1,w18.2.1,w18.2.2.1,()))
     (v.1,v.2.1,v.2.2.1,v.2.2.2.1,v.2.2.2.2.1,v.2.2.2.2.2.1,(IntKind.i64.wrap (v.2.2.2.2.2.2.1+(1:Int))),y17.1,y17.2.1,y17.2.2.1,())) fun y19 =>
   rec (v.1,v.2.1,v.2.2.1,v.2.2.2.1,v.2.2.2.2.1,v.2.2.2.2.2.1,(IntKind.i64.wrap (v.2.2.2.2.2.2.1+(1:Int))),y19.1,y19.2.1,())
  else
  rec (v.1,v.2.1,v.2.2.1,v.2.2.2.1,v.2.2.2.2.1,v.2.2.2.2.2.1,(IntKind.i64.wrap (v.2.2.2.2.2.2.1+(1:Int))),v.2.2.2.2.2.2.2.1,v.2.2.2.2.2.2.2.2.1,())
  else none
 else
 k1 (v.2.2.2.2.2.2.2.1,v.2.2.2.2.2.2.2.2.1,())
noncomputable def f981v0l1 {R:Type}(k:Nat)(k0:D60->Option R)(k1:Int×List Int×Unit->Option R)(v:D66):Option R:=iterS (fun rec v=>f981v0l1s k rec k0 k1 v) k v
theorem f981v0l0Rd (k:Nat):SumRd P Tryz.f81.ntmps (bodyOf f981v0l0C) (f981v0l0S k) k:=loop_rd tm.1 (f981v0T k).ok tm.2 (f981v0l0I k) (f981v0l0E k)
noncomputable def f981v0l1S (k:Nat):Sum1:=loop2Sum f981v0l1H f981v0l1N (f981v0l0S k) k (fun R rec K v=>f981v0l1s k rec (fun w=>K (.exit 0) (encSt f981v0l1X0 w)) (fun w=>K (.exit 0) (encSt f981v0l1X1 w)) v)
theorem f981v0l1E (k:Nat)(R:Type)(rec:f981v0l1H.Den->Option R)(K:X->St->Option R)(v:f981v0l1H.Den):evS tab (f981v0T k).t Tryz.f81.ntmps [] (bodyOf f981v0l1C) 60 (step2K f981v0l1H f981v0l1N f981v0l1M (f981v0l0S k) rec K) (encSt f981v0l1H v)=f981v0l1s k rec (fun w=>K (.exit 0) (encSt f981v0l1X0 w)) (fun w=>K (.exit 0) (encSt f981v0l1X1 w)) v:=by kernel_rfl
theorem f981v0l1I (k:Nat):SumsOk P Tryz.f81.ntmps [] (bodyOf f981v0l1C) 60:=SumsOk.nil
theorem f981v0l1Rd (k:Nat):SumRd P Tryz.f81.ntmps (bodyOf f981v0l1C) (f981v0l1S k) (k+(k)):=loop2_rd tm.1 (f981v0T k).ok tm.2 (f981v0l1I k) ((show bodyOf f981v0l0C=bodyOf f981v0l1C by kernel_rfl) ▸ f981v0l0Rd k) (f981v0l1E k)
noncomputable def f981v0l2H:Shape:=⟨[(0,.one (.ptr 0 0)),(2,.one (.ro Y7)),(3,.one (.ro (.int .i64))),(4,.one (.int .i64)),(10,.one (.int .i64)),(15,.one (.ro (.pair .str Y5))),(16,.one (.int .i64)),(17,.one (.int .i64))],[(0,.var 141 [.own 1,.emp,.int .i64]),(1,.row 5 (.int .u8) .plain)],2,[some 0,some 1]⟩
noncomputable def f981v0l2X0:Shape:=⟨[],[(0,.var 141 [.own 1,.own 2,.int .i64]),(1,.row 5 (.int .u8) .plain),(2,.row 5 (.int .u8) .plain)],3,[some 0,none]⟩
noncomputable def f981v0l2X1:Shape:=⟨[],[(0,.var 141 [.own 1,.emp,.int .i64]),(1,.row 5 (.int .u8) .plain)],2,[some 0,none]⟩
noncomputable def f981v0l2X2:Shape:=⟨[],[(0,.var 141 [.own 1,.emp,.int .i64]),(1,.row 5 (.int .u8) .plain)],2,[some 0,some 1]⟩
noncomputable def f981v0l2N:NoteR:=⟨[0,2,3,4,10,15,16,17],[],[]⟩
noncomputable def f981v0l2M:NoteR:=⟨[],[],[]⟩
noncomputable def f981v0l2C:Code:=firstC (codesAt 30 (codeOf Tryz.f81) 1)
noncomputable def f981v0l2s {R:Type}(k:Nat)(rec:D66->Option R)(k0:D60->Option R)(k1:Int×List Int×Unit->Option R)(k2:Int×List Int×Unit->Option R)(v:D66):Option R :=
 bif (decide (v.2.2.2.2.2.2.1<v.2.2.2.2.2.1)) then
  bif ((decide ((0:Int)<=v.2.2.2.2.2.2.1))&&(decide (v.2.2.2.2.2.2.1<(v.2.2.2.2.1.length:Int)))) then
  let t1:=(v.2.2.2.2.1.getD (Int.toNat v.2.2.2.2.2.2.1) (ByteArray.empty,((0:Int),((0:Int),(((0:Int),((0:Int),(0:Int))),((0:Int),(ByteArray.empty,((0:Int),[]))))))))
  bif (t1.2.2.2.2.1 !=(0:Int)) then
   bif ((decide ((0:Int)<=v.2.2.2.1))&&(decide (v.2.2.2.1<(v.1.length:Int)))) then
   Option.bind (f1032F k ((t1.1,(t1.2.1,(t1.2.2.1,((t1.2.2.2.1.1,(t1.2.2.2.1.2.1,t1.2.2.2.1.2.2)),(t1.2.2.2.2.1,(t1.2.2.2.2.2.1,(t1.2.2.2.2.2.2.1,t1.2.2.2.2.2.2.2))))))),v.2.1)) fun y2 =>
   bif y2 then
    altB (f1033v0F k (t1.1,t1.2.1,t1.2.2.1,t1.2.2.2.1.1,t1.2.2.2.1.2.1,t1.2.2.2.1.2.2,t1.2.2.2.2.1,t1.2.2.2.2.2.1,t1.2.2.2.2.2.2.1,t1.2.2.2.2.2.2.2,(v.1.getD (Int.toNat v.2.2.2.1) ((0:Int),ByteArray.empty)).1,(v.1.getD (Int.toNat v.2.2.2.1) ((0:Int),ByteArray.empty)).2,v.2.2.1,v.2.2.2.2.2.2.2.1,v.2.2.2.2.2.2.2.2.1,())) (fun y3 =>
     f981v0l0 k
      (fun (w9:D60) =>
       k0 (w9.1,w9.2.1,w9.2.2.1,()))
      (v.1,v.2.1,v.2.2.1,(IntKind.i64.wrap (v.2.2.2.1+(1:Int))),v.2.2.2.2.1,v.2.2.2.2.2.1,(IntKind.i64.wrap (v.2.2.2.2.2.2.1+(1:Int))),y3.1,y3.2.1,y3.2.2.1,())) fun y10 =>
    f981v0l1 k
     (fun (w20:D60) =>
      k0 (w20.1,w20.2.1,w20.2.2.1,()))
     (fun (w21:Int×List Int×Unit) =>
      k1 (w21.1,w21.2.1,()))
     (v.1,v.2.1,v.2.2.1,(IntKind.i64.wrap (v.2.2.2.1+(1:Int))),v.2.2.2.2.1,v.2.2.2.2.2.1,(IntKind.i64.wrap (v.2.2.2.2.2.2.1+(1:Int))),y10.1,y10.2.1,())
   else
   rec (v.1,v.2.1,v.2.2.1,(IntKind.i64.wrap (v.2.2.2.1+(1:Int))),v.2.2.2.2.1,v.2.2.2.2.2.1,(IntKind.i64.wrap (v.2.2.2.2.2.2.1+(1:Int))),v.2.2.2.2.2.2.2.1,v.2.2.2.2.2.2.2.2.1,())
   else none
  else
  Option.bind (f1032F k ((t1.1,(t1.2.1,(t1.2.2.1,((t1.2.2.2.1.1,(t1.2.2.2.1.2.1,t1.2.2.2.1.2.2)),(t1.2.2.2.2.1,(t1.2.2.2.2.2.1,(t1.2.2.2.2.2.2.1,t1.2.2.2.2.2.2.2))))))),v.2.1)) fun y22 =>
  bif y22 then
   altB (f1033v0F k (t1.1,t1.2.1,t1.2.2.1,t1.2.2.2.1.1,t1.2.2.2.1.2.1,t1.2.2.2.1.2.2,t1.2.2.2.2.1,t1.2.2.2.2.2.1,t1.2.2.2.2.2.2.1,t1.2.2.2.2.2.2.2,(0:Int),ByteArray.empty,v.2.2.1,v.2.2.2.2.2.2.2.1,v.2.2.2.2.2.2.2.2.1,())) (fun y23 =>
    f981v0l0 k
     (fun (w24:D60) =>
      k0 (w24.1,w24.2.1,w24.2.2.1,()))
     (v.1,v.2.1,v.2.2.1,v.2.2.2.1,v.2.2.2.2.1,v.2.2.2.2.2.1,(IntKind.i64.wrap (v.2.2.2.2.2.2.1+(1:Int))),y23.1,y23.2.1,y23.2.2.1,())) fun y25 =>
   f981v0l1 k
    (fun (w26:D60) =>
     k0 (w26.1,w26.2.1,w26.2.2.1,()))
    (fun (w27:Int×List Int×Unit) =>
     k1 (w27.1,w27.2.1,()))
    (v.1,v.2.1,v.2.2.1,v.2.2.2.1,v.2.2.2.2.1,v.2.2.2.2.2.1,(IntKind.i64.wrap (v.2.2.2.2.2.2.1+(1:Int))),y25.1,y25.2.1,())
  else
  rec (v.1,v.2.1,v.2.2.1,v.2.2.2.1,v.2.2.2.2.1,v.2.2.2.2.2.1,(IntKind.i64.wrap (v.2.2.2.2.2.2.1+(1:Int))),v.2.2.2.2.2.2.2.1,v.2.2.2.2.2.2.2.2.1,())
  else none
 else
 k2 (v.2.2.2.2.2.2.2.1,v.2.2.2.2.2.2.2.2.1,())
noncomputable def f981v0l2 {R:Type}(k:Nat)(k0:D60->Option R)(k1:Int×List Int×Unit->Option R)(k2:Int×List Int×Unit->Option R)(v:D66):Option R:=iterS (fun rec v=>f981v0l2s k rec k0 k1 k2 v) k v
noncomputable def f981v0l2S (k:Nat):Sum1:=loop2Sum f981v0l2H f981v0l2N (f981v0l1S k) k (fun R rec K v=>f981v0l2s k rec (fun w=>K (.exit 0) (encSt f981v0l2X0 w)) (fun w=>K (.exit 0) (encSt f981v0l2X1 w)) (fun w=>K (.exit 0) (encSt f981v0l2X2 w)) v)
theorem f981v0l2E (k:Nat)(R:Type)(rec:f981v0l2H.Den->Option R)(K:X->St->Option R)(v:f981v0l2H.Den):evS tab (f981v0T k).t Tryz.f81.ntmps [] (bodyOf f981v0l2C) 60 (step2K f981v0l2H f981v0l2N f981v0l2M (f981v0l1S k) rec K) (encSt f981v0l2H v)=f981v0l2s k rec (fun w=>K (.exit 0) (encSt f981v0l2X0 w)) (fun w=>K (.exit 0) (encSt f981v0l2X1 w)) (fun w=>K (.exit 0) (encSt f981v0l2X2 w)) v:=by kernel_rfl
theorem f981v0l2I (k:Nat):SumsOk P Tryz.f81.ntmps [] (bodyOf f981v0l2C) 60:=SumsOk.nil
theorem f981v0l2Rd (k:Nat):SumRd P Tryz.f81.ntmps (bodyOf f981v0l2C) (f981v0l2S k) (k+(k+(k))):=loop2_rd tm.1 (f981v0T k).ok tm.2 (f981v0l2I k) ((show bodyOf f981v0l1C=bodyOf f981v0l2C by kernel_rfl) ▸ f981v0l1Rd k) (f981v0l2E k)
theorem f981v0l2O (k:Nat):SumO P Tryz.f81 30 (f981v0l2S k):=(show SumOk P Tryz.f81.ntmps f981v0l2C (f981v0l2S k) from (show f981v0l2C=.loop (bodyOf f981v0l2C) by kernel_rfl) ▸ (f981v0l2Rd k).ok)
noncomputable def f981v0F (k:Nat)(x:D67):Option (Sum (D60) (Int×List Int×Unit)) :=
 f981v0l2 k
  (fun (w28:D60) =>
   some (.inl (w28.1,w28.2.1,w28.2.2.1,())))
  (fun (w29:Int×List Int×Unit) =>
   some (.inr (w29.1,w29.2.1,())))
  (fun (w30:Int×List Int×Unit) =>
   some (.inr (w30.1,w30.2.1,())))
  (x.2.2.2.1,x.2.2.2.2.1,x.2.2.2.2.2.1,(0:Int),x.2.1,(x.2.1.length:Int),(0:Int),x.2.2.2.2.2.2.1,x.2.2.2.2.2.2.2.1,())
theorem f981v0Ok (k:Nat):GnV2 P 81 f981v0I f981v0U f981v0W (f981v0F k) :=
 gs2 tm (f981v0T k) Tryz.func81 (by kernel_rfl) (SumsOk.nil |>.s (f981v0l2O k) (by kernel_rfl)) [] [] [1] [1] none fun _=>by kernel_rfl
noncomputable def f982v0I:Shape:=⟨[(0,.one (.ptr 0 0))],[(0,.var 141 [.own 1,.own 2,.int .i64]),(1,.row 5 (.int .u8) .plain),(2,.row 5 (.int .u8) .plain)],3,[]⟩
noncomputable def f982v0U:Shape:=⟨[(0,.one (.str)),(1,.one (.int .i64))],[(0,.var 141 [.dead,.own 3,.int .i64]),(3,.row 5 (.int .u8) .plain)],4,[]⟩
noncomputable def f982v0T (k:Nat):TB P:=TB.nil |>.u (f968Ok k) |>.u (f966Ok k)
noncomputable def f982v0F (k:Nat)(x:D60):Option (D68) :=
 bif (decide ((x.2.1.length+x.2.2.1.length)*1<=140737488355328)&&decide (x.2.1.length+x.2.2.1.length<=9223372036854775807)) then
 Option.bind (f968F k ((decide (((x.2.1++x.2.2.1).length:Int) > (4000:Int))),(2:Int))) fun y1 =>
 Option.bind (f966F k [x.1,y1]) fun y2 =>
 bif (y2 !=(0:Int)) then
  some (ByteArray.empty,y2,x.1,x.2.2.1,())
 else
 some ((strOfNums (x.2.1++x.2.2.1)),(0:Int),x.1,x.2.2.1,())
 else none
theorem f982v0Ok (k:Nat):GnV P 82 f982v0I f982v0U (f982v0F k) :=
 gs tm (f982v0T k) Tryz.func82 (by kernel_rfl) SumsOk.nil [.dat .bool,.dat .bool] [1,2] none fun _=>by kernel_rfl
noncomputable def f982v1I:Shape:=⟨[(0,.one (.ptr 0 0))],[(0,.var 141 [.own 1,.emp,.int .i64]),(1,.row 5 (.int .u8) .plain)],2,[]⟩
noncomputable def f982v1U:Shape:=⟨[(0,.one (.str)),(1,.one (.int .i64))],[(0,.var 141 [.dead,.emp,.int .i64])],2,[]⟩
noncomputable def f982v1T (k:Nat):TB P:=TB.nil |>.u (f968Ok k) |>.u (f966Ok k)
noncomputable def f982v1F (k:Nat)(x:Int×List Int×Unit):Option (D56) :=
 bif (decide ((x.2.1.length+([]:List Int).length)*1<=140737488355328)&&decide (x.2.1.length+([]:List Int).length<=9223372036854775807)) then
 Option.bind (f968F k ((decide (((x.2.1++[]).length:Int) > (4000:Int))),(2:Int))) fun y1 =>
 Option.bind (f966F k [x.1,y1]) fun y2 =>
 bif (y2 !=(0:Int)) then
  some (ByteArray.empty,y2,x.1,())
 else
 some ((strOfNums (x.2.1++[])),(0:Int),x.1,())
 else none
theorem f982v1Ok (k:Nat):GnV P 82 f982v1I f982v1U (f982v1F k) :=
 gs tm (f982v1T k) Tryz.func82 (by kernel_rfl) SumsOk.nil [.dat .bool,.dat .bool] [1] none fun _=>by kernel_rfl
noncomputable def f936T (k:Nat):TB P:=TB.nil |>.c ((f982v1Ok k).e.or (f982v0Ok k).e) |>.g2 (f981v0Ok k) |>.u (f979Ok k) |>.u (f972Ok k) |>.u (f967Ok k) |>.u (f966Ok k)
noncomputable def f936F (k:Nat)(x:D69):Option (ByteArray×Int) :=
 Option.bind (f967F k (x.1.1,(x.1.2.1,x.1.2.2))) fun y1 =>
 bif (y1 !=(0:Int)) then
  some (ByteArray.empty,y1)
 else
 Option.bind (f972F k ((x.1.1,(x.1.2.1,x.1.2.2)),x.2.1)) fun y2 =>
 Option.bind (f979F k x.2.2) fun y3 =>
 Option.bind (f966F k [y2,y3]) fun y4 =>
 bif (y4 !=(0:Int)) then
  some (ByteArray.empty,y4)
 else
 altB (f981v0F k (x.1.1,x.1.2.1,x.1.2.2,x.2.1,x.2.2,(0:Int),(0:Int),[],())) (fun y5 =>
  Option.bind (f982v0F k (y5.1,y5.2.1,y5.2.2.1,())) fun y6 =>
  some (y6.1,y6.2.1)) fun y7 =>
 Option.bind (f982v1F k (y7.1,y7.2.1,())) fun y8 =>
 some (y8.1,y8.2.1)
theorem f936Ok (k:Nat):FnV P 36 [.agg (.pair .str Y6),.dat (.slice Y7),.dat (.slice (.int .i64))] [.dat .str,.dat (.int .i64)] (f936F k) :=
 fs tm (f936T k) Tryz.func36 (by kernel_rfl) SumsOk.nil none fun _=>by kernel_rfl
end Go.Proofs.YteadgfclfopccaaGreatDoor
