/-
  CLOSED FACTS ON THE TYPES OF THIS PROGRAM (printed by a program of ours; each is checked by the kernel).
-/
import Derived.Test.YtpmfmjgnhdfakaaGreatDoorLwRun
import Derived.Test.YtpmfmjgnhdfakaaGreatDoorRows
set_option linter.unusedSimpArgs false
set_option linter.unusedVariables false
namespace Go.Lw
@[simp] theorem tySz0 : eSz Go.Proofs.Tryz.prog 0 = some 1 := by kernel_rfl
@[simp] theorem tyAgg0 : eAgg Go.Proofs.Tryz.prog 0 = some false := by kernel_rfl
@[simp] theorem tyStr0 : eStr Go.Proofs.Tryz.prog 0 = false := by kernel_rfl
@[simp] theorem tySz1 : eSz Go.Proofs.Tryz.prog 1 = some 1 := by kernel_rfl
@[simp] theorem tyAgg1 : eAgg Go.Proofs.Tryz.prog 1 = some false := by kernel_rfl
@[simp] theorem tyStr1 : eStr Go.Proofs.Tryz.prog 1 = false := by kernel_rfl
@[simp] theorem tyZero1 : eZero Go.Proofs.Tryz.prog 1 = some [.nilFunc] := by kernel_rfl
@[simp] theorem tySz2 : eSz Go.Proofs.Tryz.prog 2 = some 1 := by kernel_rfl
@[simp] theorem tyAgg2 : eAgg Go.Proofs.Tryz.prog 2 = some false := by kernel_rfl
@[simp] theorem tyStr2 : eStr Go.Proofs.Tryz.prog 2 = false := by kernel_rfl
@[simp] theorem tyInt2 : eInt Go.Proofs.Tryz.prog 2 = some .i64 := by kernel_rfl
@[simp] theorem tyZero2 : eZero Go.Proofs.Tryz.prog 2 = some [.int .i64 0] := by kernel_rfl
@[simp] theorem tySz3 : eSz Go.Proofs.Tryz.prog 3 = some 1 := by kernel_rfl
@[simp] theorem tyAgg3 : eAgg Go.Proofs.Tryz.prog 3 = some false := by kernel_rfl
@[simp] theorem tyStr3 : eStr Go.Proofs.Tryz.prog 3 = false := by kernel_rfl
@[simp] theorem tyInt3 : eInt Go.Proofs.Tryz.prog 3 = some .i64 := by kernel_rfl
@[simp] theorem tyZero3 : eZero Go.Proofs.Tryz.prog 3 = some [.int .i64 0] := by kernel_rfl
@[simp] theorem tySz4 : eSz Go.Proofs.Tryz.prog 4 = some 1 := by kernel_rfl
@[simp] theorem tyAgg4 : eAgg Go.Proofs.Tryz.prog 4 = some false := by kernel_rfl
@[simp] theorem tyStr4 : eStr Go.Proofs.Tryz.prog 4 = false := by kernel_rfl
@[simp] theorem tyBool4 : eBool Go.Proofs.Tryz.prog 4 = true := by kernel_rfl
@[simp] theorem tyZero4 : eZero Go.Proofs.Tryz.prog 4 = some [.bool false] := by kernel_rfl
@[simp] theorem tySz5 : eSz Go.Proofs.Tryz.prog 5 = some 1 := by kernel_rfl
@[simp] theorem tyAgg5 : eAgg Go.Proofs.Tryz.prog 5 = some false := by kernel_rfl
@[simp] theorem tyStr5 : eStr Go.Proofs.Tryz.prog 5 = false := by kernel_rfl
@[simp] theorem tyInt5 : eInt Go.Proofs.Tryz.prog 5 = some .u8 := by kernel_rfl
@[simp] theorem tyZero5 : eZero Go.Proofs.Tryz.prog 5 = some [.int .u8 0] := by kernel_rfl
@[simp] theorem tySz6 : eSz Go.Proofs.Tryz.prog 6 = some 1 := by kernel_rfl
@[simp] theorem tyAgg6 : eAgg Go.Proofs.Tryz.prog 6 = some false := by kernel_rfl
@[simp] theorem tyStr6 : eStr Go.Proofs.Tryz.prog 6 = false := by kernel_rfl
@[simp] theorem tyInt6 : eInt Go.Proofs.Tryz.prog 6 = some .u8 := by kernel_rfl
@[simp] theorem tyZero6 : eZero Go.Proofs.Tryz.prog 6 = some [.int .u8 0] := by kernel_rfl
@[simp] theorem tySz7 : eSz Go.Proofs.Tryz.prog 7 = some 4 := by kernel_rfl
@[simp] theorem tyAgg7 : eAgg Go.Proofs.Tryz.prog 7 = some true := by kernel_rfl
@[simp] theorem tyStr7 : eStr Go.Proofs.Tryz.prog 7 = false := by kernel_rfl
@[simp] theorem tyFld7_0 : eFld Go.Proofs.Tryz.prog 7 0 = some (2, 0) := by kernel_rfl
@[simp] theorem tyFld7_1 : eFld Go.Proofs.Tryz.prog 7 1 = some (3, 1) := by kernel_rfl
@[simp] theorem tyFld7_2 : eFld Go.Proofs.Tryz.prog 7 2 = some (4, 2) := by kernel_rfl
@[simp] theorem tyFld7_3 : eFld Go.Proofs.Tryz.prog 7 3 = some (6, 3) := by kernel_rfl
@[simp] theorem tyPl7 : ePl Go.Proofs.Tryz.prog 7 = some [(0, 1), (1, 1), (2, 1), (3, 1)] := by kernel_rfl
@[simp] theorem tyZero7 : eZero Go.Proofs.Tryz.prog 7 = some [.int .i64 0, .int .i64 0, .bool false, .int .u8 0] := by kernel_rfl
@[simp] theorem tySz9 : eSz Go.Proofs.Tryz.prog 9 = some 1 := by kernel_rfl
@[simp] theorem tyAgg9 : eAgg Go.Proofs.Tryz.prog 9 = some false := by kernel_rfl
@[simp] theorem tyStr9 : eStr Go.Proofs.Tryz.prog 9 = true := by kernel_rfl
@[simp] theorem tyInt9 : eInt Go.Proofs.Tryz.prog 9 = none := by kernel_rfl
@[simp] theorem tyZero9 : eZero Go.Proofs.Tryz.prog 9 = some [.string .empty] := by kernel_rfl
@[simp] theorem tySz12 : eSz Go.Proofs.Tryz.prog 12 = some 1 := by kernel_rfl
@[simp] theorem tyAgg12 : eAgg Go.Proofs.Tryz.prog 12 = some false := by kernel_rfl
@[simp] theorem tyStr12 : eStr Go.Proofs.Tryz.prog 12 = false := by kernel_rfl
@[simp] theorem tyInt12 : eInt Go.Proofs.Tryz.prog 12 = some .u64 := by kernel_rfl
@[simp] theorem tyZero12 : eZero Go.Proofs.Tryz.prog 12 = some [.int .u64 0] := by kernel_rfl
@[simp] theorem tySz20 : eSz Go.Proofs.Tryz.prog 20 = some 1 := by kernel_rfl
@[simp] theorem tyAgg20 : eAgg Go.Proofs.Tryz.prog 20 = some false := by kernel_rfl
@[simp] theorem tyStr20 : eStr Go.Proofs.Tryz.prog 20 = false := by kernel_rfl
@[simp] theorem tyZero20 : eZero Go.Proofs.Tryz.prog 20 = some [.nilIface] := by kernel_rfl
@[simp] theorem tySz21 : eSz Go.Proofs.Tryz.prog 21 = some 1 := by kernel_rfl
@[simp] theorem tyAgg21 : eAgg Go.Proofs.Tryz.prog 21 = some false := by kernel_rfl
@[simp] theorem tyStr21 : eStr Go.Proofs.Tryz.prog 21 = false := by kernel_rfl
@[simp] theorem tyInt21 : eInt Go.Proofs.Tryz.prog 21 = some .i32 := by kernel_rfl
@[simp] theorem tyZero21 : eZero Go.Proofs.Tryz.prog 21 = some [.int .i32 0] := by kernel_rfl
@[simp] theorem tySz22 : eSz Go.Proofs.Tryz.prog 22 = some 1 := by kernel_rfl
@[simp] theorem tyAgg22 : eAgg Go.Proofs.Tryz.prog 22 = some false := by kernel_rfl
@[simp] theorem tyElem22 : eElem Go.Proofs.Tryz.prog 22 = some (44, 3) := by kernel_rfl
@[simp] theorem tyBytes44 : eBytes Go.Proofs.Tryz.prog 44 = some 32 := by kernel_rfl
@[simp] theorem tyStr22 : eStr Go.Proofs.Tryz.prog 22 = false := by kernel_rfl
@[simp] theorem tyZero22 : eZero Go.Proofs.Tryz.prog 22 = some [.slice none 0 0] := by kernel_rfl
@[simp] theorem tySz24 : eSz Go.Proofs.Tryz.prog 24 = some 2 := by kernel_rfl
@[simp] theorem tyAgg24 : eAgg Go.Proofs.Tryz.prog 24 = some true := by kernel_rfl
@[simp] theorem tyStr24 : eStr Go.Proofs.Tryz.prog 24 = false := by kernel_rfl
@[simp] theorem tyFld24_0 : eFld Go.Proofs.Tryz.prog 24 0 = some (4, 0) := by kernel_rfl
@[simp] theorem tyFld24_1 : eFld Go.Proofs.Tryz.prog 24 1 = some (22, 1) := by kernel_rfl
@[simp] theorem tyPl24 : ePl Go.Proofs.Tryz.prog 24 = some [(0, 1), (1, 1)] := by kernel_rfl
@[simp] theorem tyZero24 : eZero Go.Proofs.Tryz.prog 24 = some [.bool false, .slice none 0 0] := by kernel_rfl
@[simp] theorem tySz26 : eSz Go.Proofs.Tryz.prog 26 = some 8 := by kernel_rfl
@[simp] theorem tyAgg26 : eAgg Go.Proofs.Tryz.prog 26 = some true := by kernel_rfl
@[simp] theorem tyStr26 : eStr Go.Proofs.Tryz.prog 26 = false := by kernel_rfl
@[simp] theorem tyFld26_0 : eFld Go.Proofs.Tryz.prog 26 0 = some (9, 0) := by kernel_rfl
@[simp] theorem tyFld26_1 : eFld Go.Proofs.Tryz.prog 26 1 = some (9, 1) := by kernel_rfl
@[simp] theorem tyFld26_2 : eFld Go.Proofs.Tryz.prog 26 2 = some (9, 2) := by kernel_rfl
@[simp] theorem tyFld26_3 : eFld Go.Proofs.Tryz.prog 26 3 = some (9, 3) := by kernel_rfl
@[simp] theorem tyFld26_4 : eFld Go.Proofs.Tryz.prog 26 4 = some (9, 4) := by kernel_rfl
@[simp] theorem tyFld26_5 : eFld Go.Proofs.Tryz.prog 26 5 = some (4, 5) := by kernel_rfl
@[simp] theorem tyFld26_6 : eFld Go.Proofs.Tryz.prog 26 6 = some (9, 6) := by kernel_rfl
@[simp] theorem tyFld26_7 : eFld Go.Proofs.Tryz.prog 26 7 = some (4, 7) := by kernel_rfl
@[simp] theorem tyPl26 : ePl Go.Proofs.Tryz.prog 26 = some [(0, 1), (1, 1), (2, 1), (3, 1), (4, 1), (5, 1), (6, 1), (7, 1)] := by kernel_rfl
@[simp] theorem tyZero26 : eZero Go.Proofs.Tryz.prog 26 = some [.string .empty, .string .empty, .string .empty, .string .empty, .string .empty, .bool false, .string .empty, .bool false] := by kernel_rfl
@[simp] theorem tySz27 : eSz Go.Proofs.Tryz.prog 27 = some 1 := by kernel_rfl
@[simp] theorem tyAgg27 : eAgg Go.Proofs.Tryz.prog 27 = some false := by kernel_rfl
@[simp] theorem tyElem27 : eElem Go.Proofs.Tryz.prog 27 = some (102, 2) := by kernel_rfl
@[simp] theorem tyBytes102 : eBytes Go.Proofs.Tryz.prog 102 = some 24 := by kernel_rfl
@[simp] theorem tyStr27 : eStr Go.Proofs.Tryz.prog 27 = false := by kernel_rfl
@[simp] theorem tyZero27 : eZero Go.Proofs.Tryz.prog 27 = some [.slice none 0 0] := by kernel_rfl
@[simp] theorem tySz28 : eSz Go.Proofs.Tryz.prog 28 = some 1 := by kernel_rfl
@[simp] theorem tyAgg28 : eAgg Go.Proofs.Tryz.prog 28 = some false := by kernel_rfl
@[simp] theorem tyElem28 : eElem Go.Proofs.Tryz.prog 28 = some (3, 1) := by kernel_rfl
@[simp] theorem tyBytes3 : eBytes Go.Proofs.Tryz.prog 3 = some 8 := by kernel_rfl
@[simp] theorem tyStr28 : eStr Go.Proofs.Tryz.prog 28 = false := by kernel_rfl
@[simp] theorem tyZero28 : eZero Go.Proofs.Tryz.prog 28 = some [.slice none 0 0] := by kernel_rfl
@[simp] theorem tySz29 : eSz Go.Proofs.Tryz.prog 29 = some 1 := by kernel_rfl
@[simp] theorem tyAgg29 : eAgg Go.Proofs.Tryz.prog 29 = some false := by kernel_rfl
@[simp] theorem tyStr29 : eStr Go.Proofs.Tryz.prog 29 = false := by kernel_rfl
@[simp] theorem tyInt29 : eInt Go.Proofs.Tryz.prog 29 = some .i64 := by kernel_rfl
@[simp] theorem tyZero29 : eZero Go.Proofs.Tryz.prog 29 = some [.int .i64 0] := by kernel_rfl
@[simp] theorem tySz30 : eSz Go.Proofs.Tryz.prog 30 = some 1 := by kernel_rfl
@[simp] theorem tyAgg30 : eAgg Go.Proofs.Tryz.prog 30 = some false := by kernel_rfl
@[simp] theorem tyStr30 : eStr Go.Proofs.Tryz.prog 30 = false := by kernel_rfl
@[simp] theorem tySz33 : eSz Go.Proofs.Tryz.prog 33 = some 1 := by kernel_rfl
@[simp] theorem tyAgg33 : eAgg Go.Proofs.Tryz.prog 33 = some false := by kernel_rfl
@[simp] theorem tyStr33 : eStr Go.Proofs.Tryz.prog 33 = false := by kernel_rfl
@[simp] theorem tySz36 : eSz Go.Proofs.Tryz.prog 36 = some 1 := by kernel_rfl
@[simp] theorem tyAgg36 : eAgg Go.Proofs.Tryz.prog 36 = some false := by kernel_rfl
@[simp] theorem tyElem36 : eElem Go.Proofs.Tryz.prog 36 = some (48, 3) := by kernel_rfl
@[simp] theorem tyBytes48 : eBytes Go.Proofs.Tryz.prog 48 = some 32 := by kernel_rfl
@[simp] theorem tyStr36 : eStr Go.Proofs.Tryz.prog 36 = false := by kernel_rfl
@[simp] theorem tyZero36 : eZero Go.Proofs.Tryz.prog 36 = some [.slice none 0 0] := by kernel_rfl
@[simp] theorem tySz37 : eSz Go.Proofs.Tryz.prog 37 = some 1 := by kernel_rfl
@[simp] theorem tyAgg37 : eAgg Go.Proofs.Tryz.prog 37 = some false := by kernel_rfl
@[simp] theorem tyElem37 : eElem Go.Proofs.Tryz.prog 37 = some (116, 4) := by kernel_rfl
@[simp] theorem tyBytes116 : eBytes Go.Proofs.Tryz.prog 116 = some 56 := by kernel_rfl
@[simp] theorem tyStr37 : eStr Go.Proofs.Tryz.prog 37 = false := by kernel_rfl
@[simp] theorem tyZero37 : eZero Go.Proofs.Tryz.prog 37 = some [.slice none 0 0] := by kernel_rfl
@[simp] theorem tySz39 : eSz Go.Proofs.Tryz.prog 39 = some 4 := by kernel_rfl
@[simp] theorem tyAgg39 : eAgg Go.Proofs.Tryz.prog 39 = some true := by kernel_rfl
@[simp] theorem tyStr39 : eStr Go.Proofs.Tryz.prog 39 = false := by kernel_rfl
@[simp] theorem tyFld39_0 : eFld Go.Proofs.Tryz.prog 39 0 = some (36, 0) := by kernel_rfl
@[simp] theorem tyFld39_1 : eFld Go.Proofs.Tryz.prog 39 1 = some (37, 1) := by kernel_rfl
@[simp] theorem tyFld39_2 : eFld Go.Proofs.Tryz.prog 39 2 = some (3, 2) := by kernel_rfl
@[simp] theorem tyFld39_3 : eFld Go.Proofs.Tryz.prog 39 3 = some (3, 3) := by kernel_rfl
@[simp] theorem tyPl39 : ePl Go.Proofs.Tryz.prog 39 = some [(0, 1), (1, 1), (2, 1), (3, 1)] := by kernel_rfl
@[simp] theorem tyZero39 : eZero Go.Proofs.Tryz.prog 39 = some [.slice none 0 0, .slice none 0 0, .int .i64 0, .int .i64 0] := by kernel_rfl
@[simp] theorem tySz40 : eSz Go.Proofs.Tryz.prog 40 = some 1 := by kernel_rfl
@[simp] theorem tyAgg40 : eAgg Go.Proofs.Tryz.prog 40 = some false := by kernel_rfl
@[simp] theorem tyElem40 : eElem Go.Proofs.Tryz.prog 40 = some (9, 1) := by kernel_rfl
@[simp] theorem tyBytes9 : eBytes Go.Proofs.Tryz.prog 9 = some 16 := by kernel_rfl
@[simp] theorem tyStr40 : eStr Go.Proofs.Tryz.prog 40 = false := by kernel_rfl
@[simp] theorem tyZero40 : eZero Go.Proofs.Tryz.prog 40 = some [.slice none 0 0] := by kernel_rfl
@[simp] theorem tySz41 : eSz Go.Proofs.Tryz.prog 41 = some 1 := by kernel_rfl
@[simp] theorem tyAgg41 : eAgg Go.Proofs.Tryz.prog 41 = some false := by kernel_rfl
@[simp] theorem tyStr41 : eStr Go.Proofs.Tryz.prog 41 = false := by kernel_rfl
@[simp] theorem tySz44 : eSz Go.Proofs.Tryz.prog 44 = some 3 := by kernel_rfl
@[simp] theorem tyAgg44 : eAgg Go.Proofs.Tryz.prog 44 = some true := by kernel_rfl
@[simp] theorem tyStr44 : eStr Go.Proofs.Tryz.prog 44 = false := by kernel_rfl
@[simp] theorem tyFld44_0 : eFld Go.Proofs.Tryz.prog 44 0 = some (9, 0) := by kernel_rfl
@[simp] theorem tyFld44_1 : eFld Go.Proofs.Tryz.prog 44 1 = some (3, 1) := by kernel_rfl
@[simp] theorem tyFld44_2 : eFld Go.Proofs.Tryz.prog 44 2 = some (3, 2) := by kernel_rfl
@[simp] theorem tyPl44 : ePl Go.Proofs.Tryz.prog 44 = some [(0, 1), (1, 1), (2, 1)] := by kernel_rfl
@[simp] theorem tyZero44 : eZero Go.Proofs.Tryz.prog 44 = some [.string .empty, .int .i64 0, .int .i64 0] := by kernel_rfl
@[simp] theorem tySz45 : eSz Go.Proofs.Tryz.prog 45 = some 1 := by kernel_rfl
@[simp] theorem tyAgg45 : eAgg Go.Proofs.Tryz.prog 45 = some false := by kernel_rfl
@[simp] theorem tyStr45 : eStr Go.Proofs.Tryz.prog 45 = false := by kernel_rfl
@[simp] theorem tySz48 : eSz Go.Proofs.Tryz.prog 48 = some 3 := by kernel_rfl
@[simp] theorem tyAgg48 : eAgg Go.Proofs.Tryz.prog 48 = some true := by kernel_rfl
@[simp] theorem tyStr48 : eStr Go.Proofs.Tryz.prog 48 = false := by kernel_rfl
@[simp] theorem tyFld48_0 : eFld Go.Proofs.Tryz.prog 48 0 = some (9, 0) := by kernel_rfl
@[simp] theorem tyFld48_1 : eFld Go.Proofs.Tryz.prog 48 1 = some (3, 1) := by kernel_rfl
@[simp] theorem tyFld48_2 : eFld Go.Proofs.Tryz.prog 48 2 = some (3, 2) := by kernel_rfl
@[simp] theorem tyPl48 : ePl Go.Proofs.Tryz.prog 48 = some [(0, 1), (1, 1), (2, 1)] := by kernel_rfl
@[simp] theorem tyZero48 : eZero Go.Proofs.Tryz.prog 48 = some [.string .empty, .int .i64 0, .int .i64 0] := by kernel_rfl
@[simp] theorem tySz49 : eSz Go.Proofs.Tryz.prog 49 = some 1 := by kernel_rfl
@[simp] theorem tyAgg49 : eAgg Go.Proofs.Tryz.prog 49 = some false := by kernel_rfl
@[simp] theorem tyStr49 : eStr Go.Proofs.Tryz.prog 49 = false := by kernel_rfl
@[simp] theorem tySz52 : eSz Go.Proofs.Tryz.prog 52 = some 3 := by kernel_rfl
@[simp] theorem tyAgg52 : eAgg Go.Proofs.Tryz.prog 52 = some true := by kernel_rfl
@[simp] theorem tyStr52 : eStr Go.Proofs.Tryz.prog 52 = false := by kernel_rfl
@[simp] theorem tyFld52_0 : eFld Go.Proofs.Tryz.prog 52 0 = some (3, 0) := by kernel_rfl
@[simp] theorem tyFld52_1 : eFld Go.Proofs.Tryz.prog 52 1 = some (9, 1) := by kernel_rfl
@[simp] theorem tyFld52_2 : eFld Go.Proofs.Tryz.prog 52 2 = some (4, 2) := by kernel_rfl
@[simp] theorem tyPl52 : ePl Go.Proofs.Tryz.prog 52 = some [(0, 1), (1, 1), (2, 1)] := by kernel_rfl
@[simp] theorem tyZero52 : eZero Go.Proofs.Tryz.prog 52 = some [.int .i64 0, .string .empty, .bool false] := by kernel_rfl
@[simp] theorem tySz53 : eSz Go.Proofs.Tryz.prog 53 = some 1 := by kernel_rfl
@[simp] theorem tyAgg53 : eAgg Go.Proofs.Tryz.prog 53 = some false := by kernel_rfl
@[simp] theorem tyElem53 : eElem Go.Proofs.Tryz.prog 53 = some (52, 3) := by kernel_rfl
@[simp] theorem tyBytes52 : eBytes Go.Proofs.Tryz.prog 52 = some 32 := by kernel_rfl
@[simp] theorem tyStr53 : eStr Go.Proofs.Tryz.prog 53 = false := by kernel_rfl
@[simp] theorem tyZero53 : eZero Go.Proofs.Tryz.prog 53 = some [.slice none 0 0] := by kernel_rfl
@[simp] theorem tySz59 : eSz Go.Proofs.Tryz.prog 59 = some 1 := by kernel_rfl
@[simp] theorem tyAgg59 : eAgg Go.Proofs.Tryz.prog 59 = some false := by kernel_rfl
@[simp] theorem tyStr59 : eStr Go.Proofs.Tryz.prog 59 = false := by kernel_rfl
@[simp] theorem tySz70 : eSz Go.Proofs.Tryz.prog 70 = some 1 := by kernel_rfl
@[simp] theorem tyAgg70 : eAgg Go.Proofs.Tryz.prog 70 = some false := by kernel_rfl
@[simp] theorem tyStr70 : eStr Go.Proofs.Tryz.prog 70 = false := by kernel_rfl
@[simp] theorem tySz72 : eSz Go.Proofs.Tryz.prog 72 = some 1 := by kernel_rfl
@[simp] theorem tyAgg72 : eAgg Go.Proofs.Tryz.prog 72 = some false := by kernel_rfl
@[simp] theorem tyStr72 : eStr Go.Proofs.Tryz.prog 72 = false := by kernel_rfl
@[simp] theorem tyPtr72 : ePtr Go.Proofs.Tryz.prog 72 = true := by kernel_rfl
@[simp] theorem tyZero72 : eZero Go.Proofs.Tryz.prog 72 = some [.pointer none] := by kernel_rfl
@[simp] theorem tySz74 : eSz Go.Proofs.Tryz.prog 74 = some 10 := by kernel_rfl
@[simp] theorem tyAgg74 : eAgg Go.Proofs.Tryz.prog 74 = some true := by kernel_rfl
@[simp] theorem tyStr74 : eStr Go.Proofs.Tryz.prog 74 = false := by kernel_rfl
@[simp] theorem tyFld74_0 : eFld Go.Proofs.Tryz.prog 74 0 = some (9, 0) := by kernel_rfl
@[simp] theorem tyFld74_1 : eFld Go.Proofs.Tryz.prog 74 1 = some (3, 1) := by kernel_rfl
@[simp] theorem tyFld74_2 : eFld Go.Proofs.Tryz.prog 74 2 = some (26, 2) := by kernel_rfl
@[simp] theorem tyPl74 : ePl Go.Proofs.Tryz.prog 74 = some [(0, 1), (1, 1), (2, 8)] := by kernel_rfl
@[simp] theorem tyZero74 : eZero Go.Proofs.Tryz.prog 74 = some [.string .empty, .int .i64 0, .string .empty, .string .empty, .string .empty, .string .empty, .string .empty, .bool false, .string .empty, .bool false] := by kernel_rfl
@[simp] theorem tySz78 : eSz Go.Proofs.Tryz.prog 78 = some 1 := by kernel_rfl
@[simp] theorem tyAgg78 : eAgg Go.Proofs.Tryz.prog 78 = some false := by kernel_rfl
@[simp] theorem tyStr78 : eStr Go.Proofs.Tryz.prog 78 = false := by kernel_rfl
@[simp] theorem tySz81 : eSz Go.Proofs.Tryz.prog 81 = some 1 := by kernel_rfl
@[simp] theorem tyAgg81 : eAgg Go.Proofs.Tryz.prog 81 = some false := by kernel_rfl
@[simp] theorem tyStr81 : eStr Go.Proofs.Tryz.prog 81 = false := by kernel_rfl
@[simp] theorem tyZero81 : eZero Go.Proofs.Tryz.prog 81 = some [.nilFunc] := by kernel_rfl
@[simp] theorem tySz84 : eSz Go.Proofs.Tryz.prog 84 = some 1 := by kernel_rfl
@[simp] theorem tyAgg84 : eAgg Go.Proofs.Tryz.prog 84 = some false := by kernel_rfl
@[simp] theorem tyStr84 : eStr Go.Proofs.Tryz.prog 84 = false := by kernel_rfl
@[simp] theorem tyZero84 : eZero Go.Proofs.Tryz.prog 84 = some [.nilFunc] := by kernel_rfl
@[simp] theorem tySz85 : eSz Go.Proofs.Tryz.prog 85 = some 1 := by kernel_rfl
@[simp] theorem tyAgg85 : eAgg Go.Proofs.Tryz.prog 85 = some false := by kernel_rfl
@[simp] theorem tyStr85 : eStr Go.Proofs.Tryz.prog 85 = false := by kernel_rfl
@[simp] theorem tyZero85 : eZero Go.Proofs.Tryz.prog 85 = some [.nilFunc] := by kernel_rfl
@[simp] theorem tySz90 : eSz Go.Proofs.Tryz.prog 90 = some 1 := by kernel_rfl
@[simp] theorem tyAgg90 : eAgg Go.Proofs.Tryz.prog 90 = some false := by kernel_rfl
@[simp] theorem tyStr90 : eStr Go.Proofs.Tryz.prog 90 = false := by kernel_rfl
@[simp] theorem tyInt90 : eInt Go.Proofs.Tryz.prog 90 = some .u64 := by kernel_rfl
@[simp] theorem tyZero90 : eZero Go.Proofs.Tryz.prog 90 = some [.int .u64 0] := by kernel_rfl
@[simp] theorem tySz94 : eSz Go.Proofs.Tryz.prog 94 = some 1 := by kernel_rfl
@[simp] theorem tyAgg94 : eAgg Go.Proofs.Tryz.prog 94 = some false := by kernel_rfl
@[simp] theorem tyElem94 : eElem Go.Proofs.Tryz.prog 94 = some (5, 1) := by kernel_rfl
@[simp] theorem tyBytes5 : eBytes Go.Proofs.Tryz.prog 5 = some 1 := by kernel_rfl
@[simp] theorem tyStr94 : eStr Go.Proofs.Tryz.prog 94 = false := by kernel_rfl
@[simp] theorem tyZero94 : eZero Go.Proofs.Tryz.prog 94 = some [.slice none 0 0] := by kernel_rfl
@[simp] theorem tySz96 : eSz Go.Proofs.Tryz.prog 96 = some 1 := by kernel_rfl
@[simp] theorem tyAgg96 : eAgg Go.Proofs.Tryz.prog 96 = some false := by kernel_rfl
@[simp] theorem tyStr96 : eStr Go.Proofs.Tryz.prog 96 = false := by kernel_rfl
@[simp] theorem tyInt96 : eInt Go.Proofs.Tryz.prog 96 = some .u64 := by kernel_rfl
@[simp] theorem tyZero96 : eZero Go.Proofs.Tryz.prog 96 = some [.int .u64 0] := by kernel_rfl
@[simp] theorem tySz102 : eSz Go.Proofs.Tryz.prog 102 = some 2 := by kernel_rfl
@[simp] theorem tyAgg102 : eAgg Go.Proofs.Tryz.prog 102 = some true := by kernel_rfl
@[simp] theorem tyStr102 : eStr Go.Proofs.Tryz.prog 102 = false := by kernel_rfl
@[simp] theorem tyFld102_0 : eFld Go.Proofs.Tryz.prog 102 0 = some (3, 0) := by kernel_rfl
@[simp] theorem tyFld102_1 : eFld Go.Proofs.Tryz.prog 102 1 = some (9, 1) := by kernel_rfl
@[simp] theorem tyPl102 : ePl Go.Proofs.Tryz.prog 102 = some [(0, 1), (1, 1)] := by kernel_rfl
@[simp] theorem tyZero102 : eZero Go.Proofs.Tryz.prog 102 = some [.int .i64 0, .string .empty] := by kernel_rfl
@[simp] theorem tySz105 : eSz Go.Proofs.Tryz.prog 105 = some 1 := by kernel_rfl
@[simp] theorem tyAgg105 : eAgg Go.Proofs.Tryz.prog 105 = some false := by kernel_rfl
@[simp] theorem tyStr105 : eStr Go.Proofs.Tryz.prog 105 = false := by kernel_rfl
@[simp] theorem tySz110 : eSz Go.Proofs.Tryz.prog 110 = some 1 := by kernel_rfl
@[simp] theorem tyAgg110 : eAgg Go.Proofs.Tryz.prog 110 = some false := by kernel_rfl
@[simp] theorem tyStr110 : eStr Go.Proofs.Tryz.prog 110 = false := by kernel_rfl
@[simp] theorem tySz116 : eSz Go.Proofs.Tryz.prog 116 = some 4 := by kernel_rfl
@[simp] theorem tyAgg116 : eAgg Go.Proofs.Tryz.prog 116 = some true := by kernel_rfl
@[simp] theorem tyStr116 : eStr Go.Proofs.Tryz.prog 116 = false := by kernel_rfl
@[simp] theorem tyFld116_0 : eFld Go.Proofs.Tryz.prog 116 0 = some (9, 0) := by kernel_rfl
@[simp] theorem tyFld116_1 : eFld Go.Proofs.Tryz.prog 116 1 = some (3, 1) := by kernel_rfl
@[simp] theorem tyFld116_2 : eFld Go.Proofs.Tryz.prog 116 2 = some (4, 2) := by kernel_rfl
@[simp] theorem tyFld116_3 : eFld Go.Proofs.Tryz.prog 116 3 = some (28, 3) := by kernel_rfl
@[simp] theorem tyPl116 : ePl Go.Proofs.Tryz.prog 116 = some [(0, 1), (1, 1), (2, 1), (3, 1)] := by kernel_rfl
@[simp] theorem tyZero116 : eZero Go.Proofs.Tryz.prog 116 = some [.string .empty, .int .i64 0, .bool false, .slice none 0 0] := by kernel_rfl
@[simp] theorem tySz124 : eSz Go.Proofs.Tryz.prog 124 = some 1 := by kernel_rfl
@[simp] theorem tyAgg124 : eAgg Go.Proofs.Tryz.prog 124 = some false := by kernel_rfl
@[simp] theorem tyStr124 : eStr Go.Proofs.Tryz.prog 124 = false := by kernel_rfl
@[simp] theorem tyZero124 : eZero Go.Proofs.Tryz.prog 124 = some [.nilFunc] := by kernel_rfl
@[simp] theorem tySz126 : eSz Go.Proofs.Tryz.prog 126 = some 1 := by kernel_rfl
@[simp] theorem tyAgg126 : eAgg Go.Proofs.Tryz.prog 126 = some false := by kernel_rfl
@[simp] theorem tyStr126 : eStr Go.Proofs.Tryz.prog 126 = false := by kernel_rfl
@[simp] theorem tyInt126 : eInt Go.Proofs.Tryz.prog 126 = some .i64 := by kernel_rfl
@[simp] theorem tyZero126 : eZero Go.Proofs.Tryz.prog 126 = some [.int .i64 0] := by kernel_rfl
@[simp] theorem tySz127 : eSz Go.Proofs.Tryz.prog 127 = some 1 := by kernel_rfl
@[simp] theorem tyAgg127 : eAgg Go.Proofs.Tryz.prog 127 = some false := by kernel_rfl
@[simp] theorem tyStr127 : eStr Go.Proofs.Tryz.prog 127 = false := by kernel_rfl
@[simp] theorem tySz133 : eSz Go.Proofs.Tryz.prog 133 = some 1 := by kernel_rfl
@[simp] theorem tyAgg133 : eAgg Go.Proofs.Tryz.prog 133 = some false := by kernel_rfl
@[simp] theorem tyStr133 : eStr Go.Proofs.Tryz.prog 133 = false := by kernel_rfl
@[simp] theorem tyInt133 : eInt Go.Proofs.Tryz.prog 133 = some .u32 := by kernel_rfl
@[simp] theorem tyZero133 : eZero Go.Proofs.Tryz.prog 133 = some [.int .u32 0] := by kernel_rfl
@[simp] theorem tySz137 : eSz Go.Proofs.Tryz.prog 137 = some 6 := by kernel_rfl
@[simp] theorem tyAgg137 : eAgg Go.Proofs.Tryz.prog 137 = some true := by kernel_rfl
@[simp] theorem tyStr137 : eStr Go.Proofs.Tryz.prog 137 = false := by kernel_rfl
@[simp] theorem tyFld137_0 : eFld Go.Proofs.Tryz.prog 137 0 = some (3, 0) := by kernel_rfl
@[simp] theorem tyFld137_1 : eFld Go.Proofs.Tryz.prog 137 1 = some (3, 1) := by kernel_rfl
@[simp] theorem tyFld137_2 : eFld Go.Proofs.Tryz.prog 137 2 = some (3, 2) := by kernel_rfl
@[simp] theorem tyFld137_3 : eFld Go.Proofs.Tryz.prog 137 3 = some (3, 3) := by kernel_rfl
@[simp] theorem tyFld137_4 : eFld Go.Proofs.Tryz.prog 137 4 = some (3, 4) := by kernel_rfl
@[simp] theorem tyFld137_5 : eFld Go.Proofs.Tryz.prog 137 5 = some (3, 5) := by kernel_rfl
@[simp] theorem tyPl137 : ePl Go.Proofs.Tryz.prog 137 = some [(0, 1), (1, 1), (2, 1), (3, 1), (4, 1), (5, 1)] := by kernel_rfl
@[simp] theorem tyZero137 : eZero Go.Proofs.Tryz.prog 137 = some [.int .i64 0, .int .i64 0, .int .i64 0, .int .i64 0, .int .i64 0, .int .i64 0] := by kernel_rfl
@[simp] theorem tySz145 : eSz Go.Proofs.Tryz.prog 145 = some 1 := by kernel_rfl
@[simp] theorem tyAgg145 : eAgg Go.Proofs.Tryz.prog 145 = some false := by kernel_rfl
@[simp] theorem tyStr145 : eStr Go.Proofs.Tryz.prog 145 = false := by kernel_rfl
@[simp] theorem tyInt145 : eInt Go.Proofs.Tryz.prog 145 = some .u64 := by kernel_rfl
@[simp] theorem tyZero145 : eZero Go.Proofs.Tryz.prog 145 = some [.int .u64 0] := by kernel_rfl
@[simp] theorem tySz149 : eSz Go.Proofs.Tryz.prog 149 = some 1 := by kernel_rfl
@[simp] theorem tyAgg149 : eAgg Go.Proofs.Tryz.prog 149 = some false := by kernel_rfl
@[simp] theorem tyStr149 : eStr Go.Proofs.Tryz.prog 149 = false := by kernel_rfl
@[simp] theorem tyPtr149 : ePtr Go.Proofs.Tryz.prog 149 = true := by kernel_rfl
@[simp] theorem tyZero149 : eZero Go.Proofs.Tryz.prog 149 = some [.pointer none] := by kernel_rfl
@[simp] theorem tySz153 : eSz Go.Proofs.Tryz.prog 153 = some 256 := by kernel_rfl
@[simp] theorem tyAgg153 : eAgg Go.Proofs.Tryz.prog 153 = some true := by kernel_rfl
@[simp] theorem tyStr153 : eStr Go.Proofs.Tryz.prog 153 = false := by kernel_rfl
@[simp] theorem tyArr153 : eArr Go.Proofs.Tryz.prog 153 = some (4, 256, 1) := by kernel_rfl
@[simp] theorem tySz154 : eSz Go.Proofs.Tryz.prog 154 = some 1 := by kernel_rfl
@[simp] theorem tyAgg154 : eAgg Go.Proofs.Tryz.prog 154 = some false := by kernel_rfl
@[simp] theorem tyStr154 : eStr Go.Proofs.Tryz.prog 154 = false := by kernel_rfl
@[simp] theorem tySz157 : eSz Go.Proofs.Tryz.prog 157 = some 1 := by kernel_rfl
@[simp] theorem tyAgg157 : eAgg Go.Proofs.Tryz.prog 157 = some false := by kernel_rfl
@[simp] theorem tyStr157 : eStr Go.Proofs.Tryz.prog 157 = false := by kernel_rfl
@[simp] theorem tyPtr157 : ePtr Go.Proofs.Tryz.prog 157 = true := by kernel_rfl
@[simp] theorem tyZero157 : eZero Go.Proofs.Tryz.prog 157 = some [.pointer none] := by kernel_rfl
@[simp] theorem tySz163 : eSz Go.Proofs.Tryz.prog 163 = some 1 := by kernel_rfl
@[simp] theorem tyAgg163 : eAgg Go.Proofs.Tryz.prog 163 = some false := by kernel_rfl
@[simp] theorem tyStr163 : eStr Go.Proofs.Tryz.prog 163 = false := by kernel_rfl
@[simp] theorem tyPtr163 : ePtr Go.Proofs.Tryz.prog 163 = true := by kernel_rfl
@[simp] theorem tyZero163 : eZero Go.Proofs.Tryz.prog 163 = some [.pointer none] := by kernel_rfl
@[simp] theorem tySz165 : eSz Go.Proofs.Tryz.prog 165 = some 2 := by kernel_rfl
@[simp] theorem tyAgg165 : eAgg Go.Proofs.Tryz.prog 165 = some true := by kernel_rfl
@[simp] theorem tyStr165 : eStr Go.Proofs.Tryz.prog 165 = false := by kernel_rfl
@[simp] theorem tyFld165_0 : eFld Go.Proofs.Tryz.prog 165 0 = some (163, 0) := by kernel_rfl
@[simp] theorem tyFld165_1 : eFld Go.Proofs.Tryz.prog 165 1 = some (94, 1) := by kernel_rfl
@[simp] theorem tyPl165 : ePl Go.Proofs.Tryz.prog 165 = some [(0, 1), (1, 1)] := by kernel_rfl
@[simp] theorem tyZero165 : eZero Go.Proofs.Tryz.prog 165 = some [.pointer none, .slice none 0 0] := by kernel_rfl
@[simp] theorem tySz168 : eSz Go.Proofs.Tryz.prog 168 = some 1 := by kernel_rfl
@[simp] theorem tyAgg168 : eAgg Go.Proofs.Tryz.prog 168 = some false := by kernel_rfl
@[simp] theorem tyStr168 : eStr Go.Proofs.Tryz.prog 168 = false := by kernel_rfl
@[simp] theorem tyZero168 : eZero Go.Proofs.Tryz.prog 168 = some [.nilIface] := by kernel_rfl
@[simp] theorem tySz169 : eSz Go.Proofs.Tryz.prog 169 = some 1 := by kernel_rfl
@[simp] theorem tyAgg169 : eAgg Go.Proofs.Tryz.prog 169 = some false := by kernel_rfl
@[simp] theorem tyStr169 : eStr Go.Proofs.Tryz.prog 169 = false := by kernel_rfl
@[simp] theorem tySz171 : eSz Go.Proofs.Tryz.prog 171 = some 1 := by kernel_rfl
@[simp] theorem tyAgg171 : eAgg Go.Proofs.Tryz.prog 171 = some false := by kernel_rfl
@[simp] theorem tyStr171 : eStr Go.Proofs.Tryz.prog 171 = false := by kernel_rfl
@[simp] theorem tyZero171 : eZero Go.Proofs.Tryz.prog 171 = some [.nilFunc] := by kernel_rfl
@[simp] theorem tySz173 : eSz Go.Proofs.Tryz.prog 173 = some 1 := by kernel_rfl
@[simp] theorem tyAgg173 : eAgg Go.Proofs.Tryz.prog 173 = some false := by kernel_rfl
@[simp] theorem tyStr173 : eStr Go.Proofs.Tryz.prog 173 = false := by kernel_rfl
@[simp] theorem tyPtr173 : ePtr Go.Proofs.Tryz.prog 173 = true := by kernel_rfl
@[simp] theorem tyZero173 : eZero Go.Proofs.Tryz.prog 173 = some [.pointer none] := by kernel_rfl
@[simp] theorem tySz174 : eSz Go.Proofs.Tryz.prog 174 = some 1 := by kernel_rfl
@[simp] theorem tyAgg174 : eAgg Go.Proofs.Tryz.prog 174 = some false := by kernel_rfl
@[simp] theorem tyStr174 : eStr Go.Proofs.Tryz.prog 174 = false := by kernel_rfl
@[simp] theorem tySz176 : eSz Go.Proofs.Tryz.prog 176 = some 1 := by kernel_rfl
@[simp] theorem tyAgg176 : eAgg Go.Proofs.Tryz.prog 176 = some false := by kernel_rfl
@[simp] theorem tyStr176 : eStr Go.Proofs.Tryz.prog 176 = false := by kernel_rfl
@[simp] theorem tySz179 : eSz Go.Proofs.Tryz.prog 179 = some 1 := by kernel_rfl
@[simp] theorem tyAgg179 : eAgg Go.Proofs.Tryz.prog 179 = some false := by kernel_rfl
@[simp] theorem tyStr179 : eStr Go.Proofs.Tryz.prog 179 = false := by kernel_rfl
@[simp] theorem tySz185 : eSz Go.Proofs.Tryz.prog 185 = some 1 := by kernel_rfl
@[simp] theorem tyAgg185 : eAgg Go.Proofs.Tryz.prog 185 = some false := by kernel_rfl
@[simp] theorem tyStr185 : eStr Go.Proofs.Tryz.prog 185 = false := by kernel_rfl
@[simp] theorem tyPtr185 : ePtr Go.Proofs.Tryz.prog 185 = true := by kernel_rfl
@[simp] theorem tyZero185 : eZero Go.Proofs.Tryz.prog 185 = some [.pointer none] := by kernel_rfl
@[simp] theorem tySz187 : eSz Go.Proofs.Tryz.prog 187 = some 1 := by kernel_rfl
@[simp] theorem tyAgg187 : eAgg Go.Proofs.Tryz.prog 187 = some false := by kernel_rfl
@[simp] theorem tyStr187 : eStr Go.Proofs.Tryz.prog 187 = false := by kernel_rfl
@[simp] theorem tySz189 : eSz Go.Proofs.Tryz.prog 189 = some 1 := by kernel_rfl
@[simp] theorem tyAgg189 : eAgg Go.Proofs.Tryz.prog 189 = some false := by kernel_rfl
@[simp] theorem tyStr189 : eStr Go.Proofs.Tryz.prog 189 = false := by kernel_rfl
@[simp] theorem tySz191 : eSz Go.Proofs.Tryz.prog 191 = some 1 := by kernel_rfl
@[simp] theorem tyAgg191 : eAgg Go.Proofs.Tryz.prog 191 = some false := by kernel_rfl
@[simp] theorem tyStr191 : eStr Go.Proofs.Tryz.prog 191 = false := by kernel_rfl
@[simp] theorem tyZero191 : eZero Go.Proofs.Tryz.prog 191 = some [.pointer none] := by kernel_rfl
@[simp] theorem tySz195 : eSz Go.Proofs.Tryz.prog 195 = some 256 := by kernel_rfl
@[simp] theorem tyAgg195 : eAgg Go.Proofs.Tryz.prog 195 = some true := by kernel_rfl
@[simp] theorem tyStr195 : eStr Go.Proofs.Tryz.prog 195 = false := by kernel_rfl
@[simp] theorem tyArr195 : eArr Go.Proofs.Tryz.prog 195 = some (5, 256, 1) := by kernel_rfl
@[simp] theorem tySz197 : eSz Go.Proofs.Tryz.prog 197 = some 2 := by kernel_rfl
@[simp] theorem tyAgg197 : eAgg Go.Proofs.Tryz.prog 197 = some true := by kernel_rfl
@[simp] theorem tyStr197 : eStr Go.Proofs.Tryz.prog 197 = false := by kernel_rfl
@[simp] theorem tyFld197_0 : eFld Go.Proofs.Tryz.prog 197 0 = some (5, 0) := by kernel_rfl
@[simp] theorem tyFld197_1 : eFld Go.Proofs.Tryz.prog 197 1 = some (5, 1) := by kernel_rfl
@[simp] theorem tyPl197 : ePl Go.Proofs.Tryz.prog 197 = some [(0, 1), (1, 1)] := by kernel_rfl
@[simp] theorem tyZero197 : eZero Go.Proofs.Tryz.prog 197 = some [.int .u8 0, .int .u8 0] := by kernel_rfl
@[simp] theorem tySz198 : eSz Go.Proofs.Tryz.prog 198 = some 32 := by kernel_rfl
@[simp] theorem tyAgg198 : eAgg Go.Proofs.Tryz.prog 198 = some true := by kernel_rfl
@[simp] theorem tyStr198 : eStr Go.Proofs.Tryz.prog 198 = false := by kernel_rfl
@[simp] theorem tyArr198 : eArr Go.Proofs.Tryz.prog 198 = some (197, 16, 2) := by kernel_rfl
@[simp] theorem tyPl198 : ePl Go.Proofs.Tryz.prog 198 = some [(0, 2), (2, 2), (4, 2), (6, 2), (8, 2), (10, 2), (12, 2), (14, 2), (16, 2), (18, 2), (20, 2), (22, 2), (24, 2), (26, 2), (28, 2), (30, 2)] := by kernel_rfl
@[simp] theorem tyZero198 : eZero Go.Proofs.Tryz.prog 198 = some [.int .u8 0, .int .u8 0, .int .u8 0, .int .u8 0, .int .u8 0, .int .u8 0, .int .u8 0, .int .u8 0, .int .u8 0, .int .u8 0, .int .u8 0, .int .u8 0, .int .u8 0, .int .u8 0, .int .u8 0, .int .u8 0, .int .u8 0, .int .u8 0, .int .u8 0, .int .u8 0, .int .u8 0, .int .u8 0, .int .u8 0, .int .u8 0, .int .u8 0, .int .u8 0, .int .u8 0, .int .u8 0, .int .u8 0, .int .u8 0, .int .u8 0, .int .u8 0] := by kernel_rfl
@[simp] theorem tySz199 : eSz Go.Proofs.Tryz.prog 199 = some 24 := by kernel_rfl
@[simp] theorem tyAgg199 : eAgg Go.Proofs.Tryz.prog 199 = some true := by kernel_rfl
@[simp] theorem tyStr199 : eStr Go.Proofs.Tryz.prog 199 = false := by kernel_rfl
@[simp] theorem tyArr199 : eArr Go.Proofs.Tryz.prog 199 = some (5, 24, 1) := by kernel_rfl
@[simp] theorem tyZero199 : eZero Go.Proofs.Tryz.prog 199 = some [.int .u8 0, .int .u8 0, .int .u8 0, .int .u8 0, .int .u8 0, .int .u8 0, .int .u8 0, .int .u8 0, .int .u8 0, .int .u8 0, .int .u8 0, .int .u8 0, .int .u8 0, .int .u8 0, .int .u8 0, .int .u8 0, .int .u8 0, .int .u8 0, .int .u8 0, .int .u8 0, .int .u8 0, .int .u8 0, .int .u8 0, .int .u8 0] := by kernel_rfl
@[simp] theorem tySz201 : eSz Go.Proofs.Tryz.prog 201 = some 1 := by kernel_rfl
@[simp] theorem tyAgg201 : eAgg Go.Proofs.Tryz.prog 201 = some false := by kernel_rfl
@[simp] theorem tyStr201 : eStr Go.Proofs.Tryz.prog 201 = false := by kernel_rfl
@[simp] theorem tySz206 : eSz Go.Proofs.Tryz.prog 206 = some 20 := by kernel_rfl
@[simp] theorem tyAgg206 : eAgg Go.Proofs.Tryz.prog 206 = some true := by kernel_rfl
@[simp] theorem tyStr206 : eStr Go.Proofs.Tryz.prog 206 = false := by kernel_rfl
@[simp] theorem tyArr206 : eArr Go.Proofs.Tryz.prog 206 = some (96, 20, 1) := by kernel_rfl
@[simp] theorem tyZero206 : eZero Go.Proofs.Tryz.prog 206 = some [.int .u64 0, .int .u64 0, .int .u64 0, .int .u64 0, .int .u64 0, .int .u64 0, .int .u64 0, .int .u64 0, .int .u64 0, .int .u64 0, .int .u64 0, .int .u64 0, .int .u64 0, .int .u64 0, .int .u64 0, .int .u64 0, .int .u64 0, .int .u64 0, .int .u64 0, .int .u64 0] := by kernel_rfl
@[simp] theorem tySz207 : eSz Go.Proofs.Tryz.prog 207 = some 65 := by kernel_rfl
@[simp] theorem tyAgg207 : eAgg Go.Proofs.Tryz.prog 207 = some true := by kernel_rfl
@[simp] theorem tyStr207 : eStr Go.Proofs.Tryz.prog 207 = false := by kernel_rfl
@[simp] theorem tyArr207 : eArr Go.Proofs.Tryz.prog 207 = some (5, 65, 1) := by kernel_rfl
@[simp] theorem tySz208 : eSz Go.Proofs.Tryz.prog 208 = some 1 := by kernel_rfl
@[simp] theorem tyAgg208 : eAgg Go.Proofs.Tryz.prog 208 = some false := by kernel_rfl
@[simp] theorem tyStr208 : eStr Go.Proofs.Tryz.prog 208 = false := by kernel_rfl
@[simp] theorem tyInt208 : eInt Go.Proofs.Tryz.prog 208 = some .i64 := by kernel_rfl
@[simp] theorem tyZero208 : eZero Go.Proofs.Tryz.prog 208 = some [.int .i64 0] := by kernel_rfl
@[simp] theorem tySz209 : eSz Go.Proofs.Tryz.prog 209 = some 1 := by kernel_rfl
@[simp] theorem tyAgg209 : eAgg Go.Proofs.Tryz.prog 209 = some false := by kernel_rfl
@[simp] theorem tyStr209 : eStr Go.Proofs.Tryz.prog 209 = false := by kernel_rfl
@[simp] theorem tySz211 : eSz Go.Proofs.Tryz.prog 211 = some 1 := by kernel_rfl
@[simp] theorem tyAgg211 : eAgg Go.Proofs.Tryz.prog 211 = some false := by kernel_rfl
@[simp] theorem tyStr211 : eStr Go.Proofs.Tryz.prog 211 = false := by kernel_rfl
@[simp] theorem tyPtr211 : ePtr Go.Proofs.Tryz.prog 211 = true := by kernel_rfl
@[simp] theorem tyZero211 : eZero Go.Proofs.Tryz.prog 211 = some [.pointer none] := by kernel_rfl
@[simp] theorem tySz214 : eSz Go.Proofs.Tryz.prog 214 = some 1 := by kernel_rfl
@[simp] theorem tyAgg214 : eAgg Go.Proofs.Tryz.prog 214 = some false := by kernel_rfl
@[simp] theorem tyStr214 : eStr Go.Proofs.Tryz.prog 214 = false := by kernel_rfl
@[simp] theorem tySz217 : eSz Go.Proofs.Tryz.prog 217 = some 3 := by kernel_rfl
@[simp] theorem tyAgg217 : eAgg Go.Proofs.Tryz.prog 217 = some true := by kernel_rfl
@[simp] theorem tyStr217 : eStr Go.Proofs.Tryz.prog 217 = false := by kernel_rfl
@[simp] theorem tyFld217_0 : eFld Go.Proofs.Tryz.prog 217 0 = some (9, 0) := by kernel_rfl
@[simp] theorem tyFld217_1 : eFld Go.Proofs.Tryz.prog 217 1 = some (9, 1) := by kernel_rfl
@[simp] theorem tyFld217_2 : eFld Go.Proofs.Tryz.prog 217 2 = some (168, 2) := by kernel_rfl
@[simp] theorem tyPl217 : ePl Go.Proofs.Tryz.prog 217 = some [(0, 1), (1, 1), (2, 1)] := by kernel_rfl
@[simp] theorem tyZero217 : eZero Go.Proofs.Tryz.prog 217 = some [.string .empty, .string .empty, .nilIface] := by kernel_rfl
@[simp] theorem tySz219 : eSz Go.Proofs.Tryz.prog 219 = some 32 := by kernel_rfl
@[simp] theorem tyAgg219 : eAgg Go.Proofs.Tryz.prog 219 = some true := by kernel_rfl
@[simp] theorem tyStr219 : eStr Go.Proofs.Tryz.prog 219 = false := by kernel_rfl
@[simp] theorem tyArr219 : eArr Go.Proofs.Tryz.prog 219 = some (5, 32, 1) := by kernel_rfl
@[simp] theorem tyZero219 : eZero Go.Proofs.Tryz.prog 219 = some [.int .u8 0, .int .u8 0, .int .u8 0, .int .u8 0, .int .u8 0, .int .u8 0, .int .u8 0, .int .u8 0, .int .u8 0, .int .u8 0, .int .u8 0, .int .u8 0, .int .u8 0, .int .u8 0, .int .u8 0, .int .u8 0, .int .u8 0, .int .u8 0, .int .u8 0, .int .u8 0, .int .u8 0, .int .u8 0, .int .u8 0, .int .u8 0, .int .u8 0, .int .u8 0, .int .u8 0, .int .u8 0, .int .u8 0, .int .u8 0, .int .u8 0, .int .u8 0] := by kernel_rfl
@[simp] theorem tySz220 : eSz Go.Proofs.Tryz.prog 220 = some 64 := by kernel_rfl
@[simp] theorem tyAgg220 : eAgg Go.Proofs.Tryz.prog 220 = some true := by kernel_rfl
@[simp] theorem tyStr220 : eStr Go.Proofs.Tryz.prog 220 = false := by kernel_rfl
@[simp] theorem tyArr220 : eArr Go.Proofs.Tryz.prog 220 = some (5, 64, 1) := by kernel_rfl
@[simp] theorem tySz221 : eSz Go.Proofs.Tryz.prog 221 = some 1 := by kernel_rfl
@[simp] theorem tyAgg221 : eAgg Go.Proofs.Tryz.prog 221 = some false := by kernel_rfl
@[simp] theorem tyStr221 : eStr Go.Proofs.Tryz.prog 221 = false := by kernel_rfl
@[simp] theorem tyPtr221 : ePtr Go.Proofs.Tryz.prog 221 = true := by kernel_rfl
@[simp] theorem tyZero221 : eZero Go.Proofs.Tryz.prog 221 = some [.pointer none] := by kernel_rfl
@[simp] theorem tySz223 : eSz Go.Proofs.Tryz.prog 223 = some 1 := by kernel_rfl
@[simp] theorem tyAgg223 : eAgg Go.Proofs.Tryz.prog 223 = some true := by kernel_rfl
@[simp] theorem tyStr223 : eStr Go.Proofs.Tryz.prog 223 = false := by kernel_rfl
@[simp] theorem tyFld223_0 : eFld Go.Proofs.Tryz.prog 223 0 = some (9, 0) := by kernel_rfl
@[simp] theorem tyPl223 : ePl Go.Proofs.Tryz.prog 223 = some [(0, 1)] := by kernel_rfl
@[simp] theorem tyZero223 : eZero Go.Proofs.Tryz.prog 223 = some [.string .empty] := by kernel_rfl
@[simp] theorem tyEq26 : eEq Go.Proofs.Tryz.prog 26 = some [1, 1, 1, 1, 1, 2, 1, 2] := by kernel_rfl
@[simp] theorem tyEq44 : eEq Go.Proofs.Tryz.prog 44 = some [1, 0, 0] := by kernel_rfl
@[simp] theorem tyEq48 : eEq Go.Proofs.Tryz.prog 48 = some [1, 0, 0] := by kernel_rfl
@[simp] theorem tyEq52 : eEq Go.Proofs.Tryz.prog 52 = some [0, 1, 2] := by kernel_rfl
@[simp] theorem tyEq74 : eEq Go.Proofs.Tryz.prog 74 = some [1, 0, 1, 1, 1, 1, 1, 2, 1, 2] := by kernel_rfl
@[simp] theorem tyEq102 : eEq Go.Proofs.Tryz.prog 102 = some [0, 1] := by kernel_rfl
@[simp] theorem tyEq137 : eEq Go.Proofs.Tryz.prog 137 = some [0, 0, 0, 0, 0, 0] := by kernel_rfl
@[simp] theorem tyEq197 : eEq Go.Proofs.Tryz.prog 197 = some [0, 0] := by kernel_rfl
@[simp] theorem tyEq223 : eEq Go.Proofs.Tryz.prog 223 = some [1] := by kernel_rfl
end Go.Lw
