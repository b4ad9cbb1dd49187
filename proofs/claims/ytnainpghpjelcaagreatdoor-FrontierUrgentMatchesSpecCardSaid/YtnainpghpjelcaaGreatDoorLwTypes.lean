/-
  CLOSED FACTS ON THE TYPES OF THIS PROGRAM (printed by a program of ours; each is checked by the kernel).
-/
import Derived.Test.YtnainpghpjelcaaGreatDoorLwRun
import Derived.Test.YtnainpghpjelcaaGreatDoorRows
set_option linter.unusedSimpArgs false
set_option linter.unusedVariables false
namespace Go.Lw
@[simp] theorem tySz0 : eSz Go.Proofs.Tryz.prog 0 = some 1 := by kernel_rfl
@[simp] theorem tyAgg0 : eAgg Go.Proofs.Tryz.prog 0 = some false := by kernel_rfl
@[simp] theorem tyStr0 : eStr Go.Proofs.Tryz.prog 0 = false := by kernel_rfl
@[simp] theorem tySz1 : eSz Go.Proofs.Tryz.prog 1 = some 1 := by kernel_rfl
@[simp] theorem tyAgg1 : eAgg Go.Proofs.Tryz.prog 1 = some false := by kernel_rfl
@[simp] theorem tyStr1 : eStr Go.Proofs.Tryz.prog 1 = false := by kernel_rfl
@[simp] theorem tyZero1 : eZero Go.Proofs.Tryz.prog 1 = some [.nilFunc] := by kernel_rfl
@[simp] theorem tySz2 : eSz Go.Proofs.Tryz.prog 2 = some 1 := by kernel_rfl
@[simp] theorem tyAgg2 : eAgg Go.Proofs.Tryz.prog 2 = some false := by kernel_rfl
@[simp] theorem tyStr2 : eStr Go.Proofs.Tryz.prog 2 = false := by kernel_rfl
@[simp] theorem tyInt2 : eInt Go.Proofs.Tryz.prog 2 = some .i64 := by kernel_rfl
@[simp] theorem tyZero2 : eZero Go.Proofs.Tryz.prog 2 = some [.int .i64 0] := by kernel_rfl
@[simp] theorem tySz3 : eSz Go.Proofs.Tryz.prog 3 = some 1 := by kernel_rfl
@[simp] theorem tyAgg3 : eAgg Go.Proofs.Tryz.prog 3 = some false := by kernel_rfl
@[simp] theorem tyStr3 : eStr Go.Proofs.Tryz.prog 3 = false := by kernel_rfl
@[simp] theorem tyInt3 : eInt Go.Proofs.Tryz.prog 3 = some .i64 := by kernel_rfl
@[simp] theorem tyZero3 : eZero Go.Proofs.Tryz.prog 3 = some [.int .i64 0] := by kernel_rfl
@[simp] theorem tySz4 : eSz Go.Proofs.Tryz.prog 4 = some 1 := by kernel_rfl
@[simp] theorem tyAgg4 : eAgg Go.Proofs.Tryz.prog 4 = some false := by kernel_rfl
@[simp] theorem tyStr4 : eStr Go.Proofs.Tryz.prog 4 = false := by kernel_rfl
@[simp] theorem tyBool4 : eBool Go.Proofs.Tryz.prog 4 = true := by kernel_rfl
@[simp] theorem tyZero4 : eZero Go.Proofs.Tryz.prog 4 = some [.bool false] := by kernel_rfl
@[simp] theorem tySz5 : eSz Go.Proofs.Tryz.prog 5 = some 1 := by kernel_rfl
@[simp] theorem tyAgg5 : eAgg Go.Proofs.Tryz.prog 5 = some false := by kernel_rfl
@[simp] theorem tyStr5 : eStr Go.Proofs.Tryz.prog 5 = false := by kernel_rfl
@[simp] theorem tyInt5 : eInt Go.Proofs.Tryz.prog 5 = some .u8 := by kernel_rfl
@[simp] theorem tyZero5 : eZero Go.Proofs.Tryz.prog 5 = some [.int .u8 0] := by kernel_rfl
@[simp] theorem tySz6 : eSz Go.Proofs.Tryz.prog 6 = some 1 := by kernel_rfl
@[simp] theorem tyAgg6 : eAgg Go.Proofs.Tryz.prog 6 = some false := by kernel_rfl
@[simp] theorem tyStr6 : eStr Go.Proofs.Tryz.prog 6 = false := by kernel_rfl
@[simp] theorem tyInt6 : eInt Go.Proofs.Tryz.prog 6 = some .u8 := by kernel_rfl
@[simp] theorem tyZero6 : eZero Go.Proofs.Tryz.prog 6 = some [.int .u8 0] := by kernel_rfl
@[simp] theorem tySz7 : eSz Go.Proofs.Tryz.prog 7 = some 4 := by kernel_rfl
@[simp] theorem tyAgg7 : eAgg Go.Proofs.Tryz.prog 7 = some true := by kernel_rfl
@[simp] theorem tyStr7 : eStr Go.Proofs.Tryz.prog 7 = false := by kernel_rfl
@[simp] theorem tyFld7_0 : eFld Go.Proofs.Tryz.prog 7 0 = some (2, 0) := by kernel_rfl
@[simp] theorem tyFld7_1 : eFld Go.Proofs.Tryz.prog 7 1 = some (3, 1) := by kernel_rfl
@[simp] theorem tyFld7_2 : eFld Go.Proofs.Tryz.prog 7 2 = some (4, 2) := by kernel_rfl
@[simp] theorem tyFld7_3 : eFld Go.Proofs.Tryz.prog 7 3 = some (6, 3) := by kernel_rfl
@[simp] theorem tyPl7 : ePl Go.Proofs.Tryz.prog 7 = some [(0, 1), (1, 1), (2, 1), (3, 1)] := by kernel_rfl
@[simp] theorem tyZero7 : eZero Go.Proofs.Tryz.prog 7 = some [.int .i64 0, .int .i64 0, .bool false, .int .u8 0] := by kernel_rfl
@[simp] theorem tySz9 : eSz Go.Proofs.Tryz.prog 9 = some 1 := by kernel_rfl
@[simp] theorem tyAgg9 : eAgg Go.Proofs.Tryz.prog 9 = some false := by kernel_rfl
@[simp] theorem tyStr9 : eStr Go.Proofs.Tryz.prog 9 = true := by kernel_rfl
@[simp] theorem tyInt9 : eInt Go.Proofs.Tryz.prog 9 = none := by kernel_rfl
@[simp] theorem tyZero9 : eZero Go.Proofs.Tryz.prog 9 = some [.string .empty] := by kernel_rfl
@[simp] theorem tySz20 : eSz Go.Proofs.Tryz.prog 20 = some 1 := by kernel_rfl
@[simp] theorem tyAgg20 : eAgg Go.Proofs.Tryz.prog 20 = some false := by kernel_rfl
@[simp] theorem tyStr20 : eStr Go.Proofs.Tryz.prog 20 = false := by kernel_rfl
@[simp] theorem tyZero20 : eZero Go.Proofs.Tryz.prog 20 = some [.nilIface] := by kernel_rfl
@[simp] theorem tySz21 : eSz Go.Proofs.Tryz.prog 21 = some 1 := by kernel_rfl
@[simp] theorem tyAgg21 : eAgg Go.Proofs.Tryz.prog 21 = some false := by kernel_rfl
@[simp] theorem tyStr21 : eStr Go.Proofs.Tryz.prog 21 = false := by kernel_rfl
@[simp] theorem tyInt21 : eInt Go.Proofs.Tryz.prog 21 = some .i32 := by kernel_rfl
@[simp] theorem tyZero21 : eZero Go.Proofs.Tryz.prog 21 = some [.int .i32 0] := by kernel_rfl
@[simp] theorem tySz22 : eSz Go.Proofs.Tryz.prog 22 = some 1 := by kernel_rfl
@[simp] theorem tyAgg22 : eAgg Go.Proofs.Tryz.prog 22 = some false := by kernel_rfl
@[simp] theorem tyElem22 : eElem Go.Proofs.Tryz.prog 22 = some (35, 3) := by kernel_rfl
@[simp] theorem tyBytes35 : eBytes Go.Proofs.Tryz.prog 35 = some 32 := by kernel_rfl
@[simp] theorem tyStr22 : eStr Go.Proofs.Tryz.prog 22 = false := by kernel_rfl
@[simp] theorem tyZero22 : eZero Go.Proofs.Tryz.prog 22 = some [.slice none 0 0] := by kernel_rfl
@[simp] theorem tySz23 : eSz Go.Proofs.Tryz.prog 23 = some 1 := by kernel_rfl
@[simp] theorem tyAgg23 : eAgg Go.Proofs.Tryz.prog 23 = some false := by kernel_rfl
@[simp] theorem tyElem23 : eElem Go.Proofs.Tryz.prog 23 = some (92, 4) := by kernel_rfl
@[simp] theorem tyBytes92 : eBytes Go.Proofs.Tryz.prog 92 = some 56 := by kernel_rfl
@[simp] theorem tyStr23 : eStr Go.Proofs.Tryz.prog 23 = false := by kernel_rfl
@[simp] theorem tyZero23 : eZero Go.Proofs.Tryz.prog 23 = some [.slice none 0 0] := by kernel_rfl
@[simp] theorem tySz25 : eSz Go.Proofs.Tryz.prog 25 = some 4 := by kernel_rfl
@[simp] theorem tyAgg25 : eAgg Go.Proofs.Tryz.prog 25 = some true := by kernel_rfl
@[simp] theorem tyStr25 : eStr Go.Proofs.Tryz.prog 25 = false := by kernel_rfl
@[simp] theorem tyFld25_0 : eFld Go.Proofs.Tryz.prog 25 0 = some (22, 0) := by kernel_rfl
@[simp] theorem tyFld25_1 : eFld Go.Proofs.Tryz.prog 25 1 = some (23, 1) := by kernel_rfl
@[simp] theorem tyFld25_2 : eFld Go.Proofs.Tryz.prog 25 2 = some (3, 2) := by kernel_rfl
@[simp] theorem tyFld25_3 : eFld Go.Proofs.Tryz.prog 25 3 = some (3, 3) := by kernel_rfl
@[simp] theorem tyPl25 : ePl Go.Proofs.Tryz.prog 25 = some [(0, 1), (1, 1), (2, 1), (3, 1)] := by kernel_rfl
@[simp] theorem tyZero25 : eZero Go.Proofs.Tryz.prog 25 = some [.slice none 0 0, .slice none 0 0, .int .i64 0, .int .i64 0] := by kernel_rfl
@[simp] theorem tySz26 : eSz Go.Proofs.Tryz.prog 26 = some 1 := by kernel_rfl
@[simp] theorem tyAgg26 : eAgg Go.Proofs.Tryz.prog 26 = some false := by kernel_rfl
@[simp] theorem tyStr26 : eStr Go.Proofs.Tryz.prog 26 = false := by kernel_rfl
@[simp] theorem tyInt26 : eInt Go.Proofs.Tryz.prog 26 = some .i64 := by kernel_rfl
@[simp] theorem tyZero26 : eZero Go.Proofs.Tryz.prog 26 = some [.int .i64 0] := by kernel_rfl
@[simp] theorem tySz27 : eSz Go.Proofs.Tryz.prog 27 = some 1 := by kernel_rfl
@[simp] theorem tyAgg27 : eAgg Go.Proofs.Tryz.prog 27 = some false := by kernel_rfl
@[simp] theorem tyStr27 : eStr Go.Proofs.Tryz.prog 27 = false := by kernel_rfl
@[simp] theorem tySz32 : eSz Go.Proofs.Tryz.prog 32 = some 1 := by kernel_rfl
@[simp] theorem tyAgg32 : eAgg Go.Proofs.Tryz.prog 32 = some false := by kernel_rfl
@[simp] theorem tyStr32 : eStr Go.Proofs.Tryz.prog 32 = false := by kernel_rfl
@[simp] theorem tyZero32 : eZero Go.Proofs.Tryz.prog 32 = some [.nilFunc] := by kernel_rfl
@[simp] theorem tySz35 : eSz Go.Proofs.Tryz.prog 35 = some 3 := by kernel_rfl
@[simp] theorem tyAgg35 : eAgg Go.Proofs.Tryz.prog 35 = some true := by kernel_rfl
@[simp] theorem tyStr35 : eStr Go.Proofs.Tryz.prog 35 = false := by kernel_rfl
@[simp] theorem tyFld35_0 : eFld Go.Proofs.Tryz.prog 35 0 = some (9, 0) := by kernel_rfl
@[simp] theorem tyFld35_1 : eFld Go.Proofs.Tryz.prog 35 1 = some (3, 1) := by kernel_rfl
@[simp] theorem tyFld35_2 : eFld Go.Proofs.Tryz.prog 35 2 = some (3, 2) := by kernel_rfl
@[simp] theorem tyPl35 : ePl Go.Proofs.Tryz.prog 35 = some [(0, 1), (1, 1), (2, 1)] := by kernel_rfl
@[simp] theorem tyZero35 : eZero Go.Proofs.Tryz.prog 35 = some [.string .empty, .int .i64 0, .int .i64 0] := by kernel_rfl
@[simp] theorem tySz48 : eSz Go.Proofs.Tryz.prog 48 = some 1 := by kernel_rfl
@[simp] theorem tyAgg48 : eAgg Go.Proofs.Tryz.prog 48 = some false := by kernel_rfl
@[simp] theorem tyElem48 : eElem Go.Proofs.Tryz.prog 48 = some (3, 1) := by kernel_rfl
@[simp] theorem tyBytes3 : eBytes Go.Proofs.Tryz.prog 3 = some 8 := by kernel_rfl
@[simp] theorem tyStr48 : eStr Go.Proofs.Tryz.prog 48 = false := by kernel_rfl
@[simp] theorem tyZero48 : eZero Go.Proofs.Tryz.prog 48 = some [.slice none 0 0] := by kernel_rfl
@[simp] theorem tySz49 : eSz Go.Proofs.Tryz.prog 49 = some 1 := by kernel_rfl
@[simp] theorem tyAgg49 : eAgg Go.Proofs.Tryz.prog 49 = some false := by kernel_rfl
@[simp] theorem tyStr49 : eStr Go.Proofs.Tryz.prog 49 = false := by kernel_rfl
@[simp] theorem tySz62 : eSz Go.Proofs.Tryz.prog 62 = some 1 := by kernel_rfl
@[simp] theorem tyAgg62 : eAgg Go.Proofs.Tryz.prog 62 = some false := by kernel_rfl
@[simp] theorem tyElem62 : eElem Go.Proofs.Tryz.prog 62 = some (139, 2) := by kernel_rfl
@[simp] theorem tyBytes139 : eBytes Go.Proofs.Tryz.prog 139 = some 40 := by kernel_rfl
@[simp] theorem tyStr62 : eStr Go.Proofs.Tryz.prog 62 = false := by kernel_rfl
@[simp] theorem tyZero62 : eZero Go.Proofs.Tryz.prog 62 = some [.slice none 0 0] := by kernel_rfl
@[simp] theorem tySz77 : eSz Go.Proofs.Tryz.prog 77 = some 1 := by kernel_rfl
@[simp] theorem tyAgg77 : eAgg Go.Proofs.Tryz.prog 77 = some false := by kernel_rfl
@[simp] theorem tyStr77 : eStr Go.Proofs.Tryz.prog 77 = false := by kernel_rfl
@[simp] theorem tySz81 : eSz Go.Proofs.Tryz.prog 81 = some 2 := by kernel_rfl
@[simp] theorem tyAgg81 : eAgg Go.Proofs.Tryz.prog 81 = some true := by kernel_rfl
@[simp] theorem tyStr81 : eStr Go.Proofs.Tryz.prog 81 = false := by kernel_rfl
@[simp] theorem tyFld81_0 : eFld Go.Proofs.Tryz.prog 81 0 = some (3, 0) := by kernel_rfl
@[simp] theorem tyFld81_1 : eFld Go.Proofs.Tryz.prog 81 1 = some (4, 1) := by kernel_rfl
@[simp] theorem tyPl81 : ePl Go.Proofs.Tryz.prog 81 = some [(0, 1), (1, 1)] := by kernel_rfl
@[simp] theorem tyZero81 : eZero Go.Proofs.Tryz.prog 81 = some [.int .i64 0, .bool false] := by kernel_rfl
@[simp] theorem tySz82 : eSz Go.Proofs.Tryz.prog 82 = some 1 := by kernel_rfl
@[simp] theorem tyAgg82 : eAgg Go.Proofs.Tryz.prog 82 = some false := by kernel_rfl
@[simp] theorem tyElem82 : eElem Go.Proofs.Tryz.prog 82 = some (81, 2) := by kernel_rfl
@[simp] theorem tyBytes81 : eBytes Go.Proofs.Tryz.prog 81 = some 16 := by kernel_rfl
@[simp] theorem tyStr82 : eStr Go.Proofs.Tryz.prog 82 = false := by kernel_rfl
@[simp] theorem tyZero82 : eZero Go.Proofs.Tryz.prog 82 = some [.slice none 0 0] := by kernel_rfl
@[simp] theorem tySz92 : eSz Go.Proofs.Tryz.prog 92 = some 4 := by kernel_rfl
@[simp] theorem tyAgg92 : eAgg Go.Proofs.Tryz.prog 92 = some true := by kernel_rfl
@[simp] theorem tyStr92 : eStr Go.Proofs.Tryz.prog 92 = false := by kernel_rfl
@[simp] theorem tyFld92_0 : eFld Go.Proofs.Tryz.prog 92 0 = some (9, 0) := by kernel_rfl
@[simp] theorem tyFld92_1 : eFld Go.Proofs.Tryz.prog 92 1 = some (3, 1) := by kernel_rfl
@[simp] theorem tyFld92_2 : eFld Go.Proofs.Tryz.prog 92 2 = some (4, 2) := by kernel_rfl
@[simp] theorem tyFld92_3 : eFld Go.Proofs.Tryz.prog 92 3 = some (48, 3) := by kernel_rfl
@[simp] theorem tyPl92 : ePl Go.Proofs.Tryz.prog 92 = some [(0, 1), (1, 1), (2, 1), (3, 1)] := by kernel_rfl
@[simp] theorem tyZero92 : eZero Go.Proofs.Tryz.prog 92 = some [.string .empty, .int .i64 0, .bool false, .slice none 0 0] := by kernel_rfl
@[simp] theorem tySz94 : eSz Go.Proofs.Tryz.prog 94 = some 8 := by kernel_rfl
@[simp] theorem tyAgg94 : eAgg Go.Proofs.Tryz.prog 94 = some true := by kernel_rfl
@[simp] theorem tyStr94 : eStr Go.Proofs.Tryz.prog 94 = false := by kernel_rfl
@[simp] theorem tyFld94_0 : eFld Go.Proofs.Tryz.prog 94 0 = some (9, 0) := by kernel_rfl
@[simp] theorem tyFld94_1 : eFld Go.Proofs.Tryz.prog 94 1 = some (9, 1) := by kernel_rfl
@[simp] theorem tyFld94_2 : eFld Go.Proofs.Tryz.prog 94 2 = some (9, 2) := by kernel_rfl
@[simp] theorem tyFld94_3 : eFld Go.Proofs.Tryz.prog 94 3 = some (9, 3) := by kernel_rfl
@[simp] theorem tyFld94_4 : eFld Go.Proofs.Tryz.prog 94 4 = some (9, 4) := by kernel_rfl
@[simp] theorem tyFld94_5 : eFld Go.Proofs.Tryz.prog 94 5 = some (4, 5) := by kernel_rfl
@[simp] theorem tyFld94_6 : eFld Go.Proofs.Tryz.prog 94 6 = some (9, 6) := by kernel_rfl
@[simp] theorem tyFld94_7 : eFld Go.Proofs.Tryz.prog 94 7 = some (4, 7) := by kernel_rfl
@[simp] theorem tyPl94 : ePl Go.Proofs.Tryz.prog 94 = some [(0, 1), (1, 1), (2, 1), (3, 1), (4, 1), (5, 1), (6, 1), (7, 1)] := by kernel_rfl
@[simp] theorem tyZero94 : eZero Go.Proofs.Tryz.prog 94 = some [.string .empty, .string .empty, .string .empty, .string .empty, .string .empty, .bool false, .string .empty, .bool false] := by kernel_rfl
@[simp] theorem tySz95 : eSz Go.Proofs.Tryz.prog 95 = some 1 := by kernel_rfl
@[simp] theorem tyAgg95 : eAgg Go.Proofs.Tryz.prog 95 = some false := by kernel_rfl
@[simp] theorem tyStr95 : eStr Go.Proofs.Tryz.prog 95 = false := by kernel_rfl
@[simp] theorem tySz98 : eSz Go.Proofs.Tryz.prog 98 = some 1 := by kernel_rfl
@[simp] theorem tyAgg98 : eAgg Go.Proofs.Tryz.prog 98 = some false := by kernel_rfl
@[simp] theorem tyStr98 : eStr Go.Proofs.Tryz.prog 98 = false := by kernel_rfl
@[simp] theorem tySz101 : eSz Go.Proofs.Tryz.prog 101 = some 1 := by kernel_rfl
@[simp] theorem tyAgg101 : eAgg Go.Proofs.Tryz.prog 101 = some false := by kernel_rfl
@[simp] theorem tyElem101 : eElem Go.Proofs.Tryz.prog 101 = some (9, 1) := by kernel_rfl
@[simp] theorem tyBytes9 : eBytes Go.Proofs.Tryz.prog 9 = some 16 := by kernel_rfl
@[simp] theorem tyStr101 : eStr Go.Proofs.Tryz.prog 101 = false := by kernel_rfl
@[simp] theorem tyZero101 : eZero Go.Proofs.Tryz.prog 101 = some [.slice none 0 0] := by kernel_rfl
@[simp] theorem tySz121 : eSz Go.Proofs.Tryz.prog 121 = some 1 := by kernel_rfl
@[simp] theorem tyAgg121 : eAgg Go.Proofs.Tryz.prog 121 = some false := by kernel_rfl
@[simp] theorem tyStr121 : eStr Go.Proofs.Tryz.prog 121 = false := by kernel_rfl
@[simp] theorem tyPtr121 : ePtr Go.Proofs.Tryz.prog 121 = true := by kernel_rfl
@[simp] theorem tyZero121 : eZero Go.Proofs.Tryz.prog 121 = some [.pointer none] := by kernel_rfl
@[simp] theorem tySz122 : eSz Go.Proofs.Tryz.prog 122 = some 1 := by kernel_rfl
@[simp] theorem tyAgg122 : eAgg Go.Proofs.Tryz.prog 122 = some false := by kernel_rfl
@[simp] theorem tyElem122 : eElem Go.Proofs.Tryz.prog 122 = some (5, 1) := by kernel_rfl
@[simp] theorem tyBytes5 : eBytes Go.Proofs.Tryz.prog 5 = some 1 := by kernel_rfl
@[simp] theorem tyStr122 : eStr Go.Proofs.Tryz.prog 122 = false := by kernel_rfl
@[simp] theorem tyZero122 : eZero Go.Proofs.Tryz.prog 122 = some [.slice none 0 0] := by kernel_rfl
@[simp] theorem tySz124 : eSz Go.Proofs.Tryz.prog 124 = some 2 := by kernel_rfl
@[simp] theorem tyAgg124 : eAgg Go.Proofs.Tryz.prog 124 = some true := by kernel_rfl
@[simp] theorem tyStr124 : eStr Go.Proofs.Tryz.prog 124 = false := by kernel_rfl
@[simp] theorem tyFld124_0 : eFld Go.Proofs.Tryz.prog 124 0 = some (121, 0) := by kernel_rfl
@[simp] theorem tyFld124_1 : eFld Go.Proofs.Tryz.prog 124 1 = some (122, 1) := by kernel_rfl
@[simp] theorem tyPl124 : ePl Go.Proofs.Tryz.prog 124 = some [(0, 1), (1, 1)] := by kernel_rfl
@[simp] theorem tyZero124 : eZero Go.Proofs.Tryz.prog 124 = some [.pointer none, .slice none 0 0] := by kernel_rfl
@[simp] theorem tySz127 : eSz Go.Proofs.Tryz.prog 127 = some 1 := by kernel_rfl
@[simp] theorem tyAgg127 : eAgg Go.Proofs.Tryz.prog 127 = some false := by kernel_rfl
@[simp] theorem tyStr127 : eStr Go.Proofs.Tryz.prog 127 = false := by kernel_rfl
@[simp] theorem tyZero127 : eZero Go.Proofs.Tryz.prog 127 = some [.nilIface] := by kernel_rfl
@[simp] theorem tySz128 : eSz Go.Proofs.Tryz.prog 128 = some 1 := by kernel_rfl
@[simp] theorem tyAgg128 : eAgg Go.Proofs.Tryz.prog 128 = some false := by kernel_rfl
@[simp] theorem tyStr128 : eStr Go.Proofs.Tryz.prog 128 = false := by kernel_rfl
@[simp] theorem tySz131 : eSz Go.Proofs.Tryz.prog 131 = some 1 := by kernel_rfl
@[simp] theorem tyAgg131 : eAgg Go.Proofs.Tryz.prog 131 = some false := by kernel_rfl
@[simp] theorem tyStr131 : eStr Go.Proofs.Tryz.prog 131 = false := by kernel_rfl
@[simp] theorem tyZero131 : eZero Go.Proofs.Tryz.prog 131 = some [.nilFunc] := by kernel_rfl
@[simp] theorem tySz139 : eSz Go.Proofs.Tryz.prog 139 = some 2 := by kernel_rfl
@[simp] theorem tyAgg139 : eAgg Go.Proofs.Tryz.prog 139 = some true := by kernel_rfl
@[simp] theorem tyStr139 : eStr Go.Proofs.Tryz.prog 139 = false := by kernel_rfl
@[simp] theorem tyFld139_0 : eFld Go.Proofs.Tryz.prog 139 0 = some (9, 0) := by kernel_rfl
@[simp] theorem tyFld139_1 : eFld Go.Proofs.Tryz.prog 139 1 = some (82, 1) := by kernel_rfl
@[simp] theorem tyPl139 : ePl Go.Proofs.Tryz.prog 139 = some [(0, 1), (1, 1)] := by kernel_rfl
@[simp] theorem tyZero139 : eZero Go.Proofs.Tryz.prog 139 = some [.string .empty, .slice none 0 0] := by kernel_rfl
@[simp] theorem tySz140 : eSz Go.Proofs.Tryz.prog 140 = some 1 := by kernel_rfl
@[simp] theorem tyAgg140 : eAgg Go.Proofs.Tryz.prog 140 = some false := by kernel_rfl
@[simp] theorem tyStr140 : eStr Go.Proofs.Tryz.prog 140 = false := by kernel_rfl
@[simp] theorem tySz165 : eSz Go.Proofs.Tryz.prog 165 = some 1 := by kernel_rfl
@[simp] theorem tyAgg165 : eAgg Go.Proofs.Tryz.prog 165 = some false := by kernel_rfl
@[simp] theorem tyStr165 : eStr Go.Proofs.Tryz.prog 165 = false := by kernel_rfl
@[simp] theorem tyInt165 : eInt Go.Proofs.Tryz.prog 165 = some .u64 := by kernel_rfl
@[simp] theorem tyZero165 : eZero Go.Proofs.Tryz.prog 165 = some [.int .u64 0] := by kernel_rfl
@[simp] theorem tySz178 : eSz Go.Proofs.Tryz.prog 178 = some 2 := by kernel_rfl
@[simp] theorem tyAgg178 : eAgg Go.Proofs.Tryz.prog 178 = some true := by kernel_rfl
@[simp] theorem tyStr178 : eStr Go.Proofs.Tryz.prog 178 = false := by kernel_rfl
@[simp] theorem tyFld178_0 : eFld Go.Proofs.Tryz.prog 178 0 = some (101, 0) := by kernel_rfl
@[simp] theorem tyFld178_1 : eFld Go.Proofs.Tryz.prog 178 1 = some (4, 1) := by kernel_rfl
@[simp] theorem tyPl178 : ePl Go.Proofs.Tryz.prog 178 = some [(0, 1), (1, 1)] := by kernel_rfl
@[simp] theorem tyZero178 : eZero Go.Proofs.Tryz.prog 178 = some [.slice none 0 0, .bool false] := by kernel_rfl
@[simp] theorem tySz180 : eSz Go.Proofs.Tryz.prog 180 = some 1 := by kernel_rfl
@[simp] theorem tyAgg180 : eAgg Go.Proofs.Tryz.prog 180 = some false := by kernel_rfl
@[simp] theorem tyStr180 : eStr Go.Proofs.Tryz.prog 180 = false := by kernel_rfl
@[simp] theorem tyPtr180 : ePtr Go.Proofs.Tryz.prog 180 = true := by kernel_rfl
@[simp] theorem tyZero180 : eZero Go.Proofs.Tryz.prog 180 = some [.pointer none] := by kernel_rfl
@[simp] theorem tySz202 : eSz Go.Proofs.Tryz.prog 202 = some 1 := by kernel_rfl
@[simp] theorem tyAgg202 : eAgg Go.Proofs.Tryz.prog 202 = some false := by kernel_rfl
@[simp] theorem tyStr202 : eStr Go.Proofs.Tryz.prog 202 = false := by kernel_rfl
@[simp] theorem tyBytes101 : eBytes Go.Proofs.Tryz.prog 101 = some 24 := by kernel_rfl
@[simp] theorem tySz208 : eSz Go.Proofs.Tryz.prog 208 = some 1 := by kernel_rfl
@[simp] theorem tyAgg208 : eAgg Go.Proofs.Tryz.prog 208 = some false := by kernel_rfl
@[simp] theorem tyElem208 : eElem Go.Proofs.Tryz.prog 208 = some (226, 2) := by kernel_rfl
@[simp] theorem tyBytes226 : eBytes Go.Proofs.Tryz.prog 226 = some 24 := by kernel_rfl
@[simp] theorem tyStr208 : eStr Go.Proofs.Tryz.prog 208 = false := by kernel_rfl
@[simp] theorem tyZero208 : eZero Go.Proofs.Tryz.prog 208 = some [.slice none 0 0] := by kernel_rfl
@[simp] theorem tySz216 : eSz Go.Proofs.Tryz.prog 216 = some 1 := by kernel_rfl
@[simp] theorem tyAgg216 : eAgg Go.Proofs.Tryz.prog 216 = some false := by kernel_rfl
@[simp] theorem tyStr216 : eStr Go.Proofs.Tryz.prog 216 = false := by kernel_rfl
@[simp] theorem tyZero216 : eZero Go.Proofs.Tryz.prog 216 = some [.pointer none] := by kernel_rfl
@[simp] theorem tySz226 : eSz Go.Proofs.Tryz.prog 226 = some 2 := by kernel_rfl
@[simp] theorem tyAgg226 : eAgg Go.Proofs.Tryz.prog 226 = some true := by kernel_rfl
@[simp] theorem tyStr226 : eStr Go.Proofs.Tryz.prog 226 = false := by kernel_rfl
@[simp] theorem tyFld226_0 : eFld Go.Proofs.Tryz.prog 226 0 = some (3, 0) := by kernel_rfl
@[simp] theorem tyFld226_1 : eFld Go.Proofs.Tryz.prog 226 1 = some (9, 1) := by kernel_rfl
@[simp] theorem tyPl226 : ePl Go.Proofs.Tryz.prog 226 = some [(0, 1), (1, 1)] := by kernel_rfl
@[simp] theorem tyZero226 : eZero Go.Proofs.Tryz.prog 226 = some [.int .i64 0, .string .empty] := by kernel_rfl
@[simp] theorem tySz228 : eSz Go.Proofs.Tryz.prog 228 = some 1 := by kernel_rfl
@[simp] theorem tyAgg228 : eAgg Go.Proofs.Tryz.prog 228 = some false := by kernel_rfl
@[simp] theorem tyStr228 : eStr Go.Proofs.Tryz.prog 228 = false := by kernel_rfl
@[simp] theorem tySz232 : eSz Go.Proofs.Tryz.prog 232 = some 256 := by kernel_rfl
@[simp] theorem tyAgg232 : eAgg Go.Proofs.Tryz.prog 232 = some true := by kernel_rfl
@[simp] theorem tyStr232 : eStr Go.Proofs.Tryz.prog 232 = false := by kernel_rfl
@[simp] theorem tyArr232 : eArr Go.Proofs.Tryz.prog 232 = some (4, 256, 1) := by kernel_rfl
@[simp] theorem tySz233 : eSz Go.Proofs.Tryz.prog 233 = some 1 := by kernel_rfl
@[simp] theorem tyAgg233 : eAgg Go.Proofs.Tryz.prog 233 = some false := by kernel_rfl
@[simp] theorem tyStr233 : eStr Go.Proofs.Tryz.prog 233 = false := by kernel_rfl
@[simp] theorem tySz236 : eSz Go.Proofs.Tryz.prog 236 = some 1 := by kernel_rfl
@[simp] theorem tyAgg236 : eAgg Go.Proofs.Tryz.prog 236 = some false := by kernel_rfl
@[simp] theorem tyStr236 : eStr Go.Proofs.Tryz.prog 236 = false := by kernel_rfl
@[simp] theorem tyPtr236 : ePtr Go.Proofs.Tryz.prog 236 = true := by kernel_rfl
@[simp] theorem tyZero236 : eZero Go.Proofs.Tryz.prog 236 = some [.pointer none] := by kernel_rfl
@[simp] theorem tySz238 : eSz Go.Proofs.Tryz.prog 238 = some 24 := by kernel_rfl
@[simp] theorem tyAgg238 : eAgg Go.Proofs.Tryz.prog 238 = some true := by kernel_rfl
@[simp] theorem tyStr238 : eStr Go.Proofs.Tryz.prog 238 = false := by kernel_rfl
@[simp] theorem tyArr238 : eArr Go.Proofs.Tryz.prog 238 = some (5, 24, 1) := by kernel_rfl
@[simp] theorem tyZero238 : eZero Go.Proofs.Tryz.prog 238 = some [.int .u8 0, .int .u8 0, .int .u8 0, .int .u8 0, .int .u8 0, .int .u8 0, .int .u8 0, .int .u8 0, .int .u8 0, .int .u8 0, .int .u8 0, .int .u8 0, .int .u8 0, .int .u8 0, .int .u8 0, .int .u8 0, .int .u8 0, .int .u8 0, .int .u8 0, .int .u8 0, .int .u8 0, .int .u8 0, .int .u8 0, .int .u8 0] := by kernel_rfl
@[simp] theorem tySz239 : eSz Go.Proofs.Tryz.prog 239 = some 1 := by kernel_rfl
@[simp] theorem tyAgg239 : eAgg Go.Proofs.Tryz.prog 239 = some false := by kernel_rfl
@[simp] theorem tyStr239 : eStr Go.Proofs.Tryz.prog 239 = false := by kernel_rfl
@[simp] theorem tyInt239 : eInt Go.Proofs.Tryz.prog 239 = some .u64 := by kernel_rfl
@[simp] theorem tyZero239 : eZero Go.Proofs.Tryz.prog 239 = some [.int .u64 0] := by kernel_rfl
@[simp] theorem tySz242 : eSz Go.Proofs.Tryz.prog 242 = some 1 := by kernel_rfl
@[simp] theorem tyAgg242 : eAgg Go.Proofs.Tryz.prog 242 = some false := by kernel_rfl
@[simp] theorem tyStr242 : eStr Go.Proofs.Tryz.prog 242 = false := by kernel_rfl
@[simp] theorem tySz250 : eSz Go.Proofs.Tryz.prog 250 = some 1 := by kernel_rfl
@[simp] theorem tyAgg250 : eAgg Go.Proofs.Tryz.prog 250 = some false := by kernel_rfl
@[simp] theorem tyStr250 : eStr Go.Proofs.Tryz.prog 250 = false := by kernel_rfl
@[simp] theorem tyInt250 : eInt Go.Proofs.Tryz.prog 250 = some .u32 := by kernel_rfl
@[simp] theorem tyZero250 : eZero Go.Proofs.Tryz.prog 250 = some [.int .u32 0] := by kernel_rfl
@[simp] theorem tySz251 : eSz Go.Proofs.Tryz.prog 251 = some 1 := by kernel_rfl
@[simp] theorem tyAgg251 : eAgg Go.Proofs.Tryz.prog 251 = some false := by kernel_rfl
@[simp] theorem tyStr251 : eStr Go.Proofs.Tryz.prog 251 = false := by kernel_rfl
@[simp] theorem tySz254 : eSz Go.Proofs.Tryz.prog 254 = some 1 := by kernel_rfl
@[simp] theorem tyAgg254 : eAgg Go.Proofs.Tryz.prog 254 = some false := by kernel_rfl
@[simp] theorem tyStr254 : eStr Go.Proofs.Tryz.prog 254 = false := by kernel_rfl
@[simp] theorem tyInt254 : eInt Go.Proofs.Tryz.prog 254 = some .i64 := by kernel_rfl
@[simp] theorem tyZero254 : eZero Go.Proofs.Tryz.prog 254 = some [.int .i64 0] := by kernel_rfl
@[simp] theorem tySz255 : eSz Go.Proofs.Tryz.prog 255 = some 1 := by kernel_rfl
@[simp] theorem tyAgg255 : eAgg Go.Proofs.Tryz.prog 255 = some false := by kernel_rfl
@[simp] theorem tyStr255 : eStr Go.Proofs.Tryz.prog 255 = false := by kernel_rfl
@[simp] theorem tySz257 : eSz Go.Proofs.Tryz.prog 257 = some 1 := by kernel_rfl
@[simp] theorem tyAgg257 : eAgg Go.Proofs.Tryz.prog 257 = some false := by kernel_rfl
@[simp] theorem tyStr257 : eStr Go.Proofs.Tryz.prog 257 = false := by kernel_rfl
@[simp] theorem tyPtr257 : ePtr Go.Proofs.Tryz.prog 257 = true := by kernel_rfl
@[simp] theorem tyZero257 : eZero Go.Proofs.Tryz.prog 257 = some [.pointer none] := by kernel_rfl
@[simp] theorem tySz261 : eSz Go.Proofs.Tryz.prog 261 = some 20 := by kernel_rfl
@[simp] theorem tyAgg261 : eAgg Go.Proofs.Tryz.prog 261 = some true := by kernel_rfl
@[simp] theorem tyStr261 : eStr Go.Proofs.Tryz.prog 261 = false := by kernel_rfl
@[simp] theorem tyArr261 : eArr Go.Proofs.Tryz.prog 261 = some (239, 20, 1) := by kernel_rfl
@[simp] theorem tyZero261 : eZero Go.Proofs.Tryz.prog 261 = some [.int .u64 0, .int .u64 0, .int .u64 0, .int .u64 0, .int .u64 0, .int .u64 0, .int .u64 0, .int .u64 0, .int .u64 0, .int .u64 0, .int .u64 0, .int .u64 0, .int .u64 0, .int .u64 0, .int .u64 0, .int .u64 0, .int .u64 0, .int .u64 0, .int .u64 0, .int .u64 0] := by kernel_rfl
@[simp] theorem tySz262 : eSz Go.Proofs.Tryz.prog 262 = some 65 := by kernel_rfl
@[simp] theorem tyAgg262 : eAgg Go.Proofs.Tryz.prog 262 = some true := by kernel_rfl
@[simp] theorem tyStr262 : eStr Go.Proofs.Tryz.prog 262 = false := by kernel_rfl
@[simp] theorem tyArr262 : eArr Go.Proofs.Tryz.prog 262 = some (5, 65, 1) := by kernel_rfl
@[simp] theorem tySz267 : eSz Go.Proofs.Tryz.prog 267 = some 256 := by kernel_rfl
@[simp] theorem tyAgg267 : eAgg Go.Proofs.Tryz.prog 267 = some true := by kernel_rfl
@[simp] theorem tyStr267 : eStr Go.Proofs.Tryz.prog 267 = false := by kernel_rfl
@[simp] theorem tyArr267 : eArr Go.Proofs.Tryz.prog 267 = some (5, 256, 1) := by kernel_rfl
@[simp] theorem tySz269 : eSz Go.Proofs.Tryz.prog 269 = some 2 := by kernel_rfl
@[simp] theorem tyAgg269 : eAgg Go.Proofs.Tryz.prog 269 = some true := by kernel_rfl
@[simp] theorem tyStr269 : eStr Go.Proofs.Tryz.prog 269 = false := by kernel_rfl
@[simp] theorem tyFld269_0 : eFld Go.Proofs.Tryz.prog 269 0 = some (5, 0) := by kernel_rfl
@[simp] theorem tyFld269_1 : eFld Go.Proofs.Tryz.prog 269 1 = some (5, 1) := by kernel_rfl
@[simp] theorem tyPl269 : ePl Go.Proofs.Tryz.prog 269 = some [(0, 1), (1, 1)] := by kernel_rfl
@[simp] theorem tyZero269 : eZero Go.Proofs.Tryz.prog 269 = some [.int .u8 0, .int .u8 0] := by kernel_rfl
@[simp] theorem tySz270 : eSz Go.Proofs.Tryz.prog 270 = some 32 := by kernel_rfl
@[simp] theorem tyAgg270 : eAgg Go.Proofs.Tryz.prog 270 = some true := by kernel_rfl
@[simp] theorem tyStr270 : eStr Go.Proofs.Tryz.prog 270 = false := by kernel_rfl
@[simp] theorem tyArr270 : eArr Go.Proofs.Tryz.prog 270 = some (269, 16, 2) := by kernel_rfl
@[simp] theorem tyPl270 : ePl Go.Proofs.Tryz.prog 270 = some [(0, 2), (2, 2), (4, 2), (6, 2), (8, 2), (10, 2), (12, 2), (14, 2), (16, 2), (18, 2), (20, 2), (22, 2), (24, 2), (26, 2), (28, 2), (30, 2)] := by kernel_rfl
@[simp] theorem tyZero270 : eZero Go.Proofs.Tryz.prog 270 = some [.int .u8 0, .int .u8 0, .int .u8 0, .int .u8 0, .int .u8 0, .int .u8 0, .int .u8 0, .int .u8 0, .int .u8 0, .int .u8 0, .int .u8 0, .int .u8 0, .int .u8 0, .int .u8 0, .int .u8 0, .int .u8 0, .int .u8 0, .int .u8 0, .int .u8 0, .int .u8 0, .int .u8 0, .int .u8 0, .int .u8 0, .int .u8 0, .int .u8 0, .int .u8 0, .int .u8 0, .int .u8 0, .int .u8 0, .int .u8 0, .int .u8 0, .int .u8 0] := by kernel_rfl
@[simp] theorem tySz272 : eSz Go.Proofs.Tryz.prog 272 = some 1 := by kernel_rfl
@[simp] theorem tyAgg272 : eAgg Go.Proofs.Tryz.prog 272 = some false := by kernel_rfl
@[simp] theorem tyStr272 : eStr Go.Proofs.Tryz.prog 272 = false := by kernel_rfl
@[simp] theorem tySz275 : eSz Go.Proofs.Tryz.prog 275 = some 3 := by kernel_rfl
@[simp] theorem tyAgg275 : eAgg Go.Proofs.Tryz.prog 275 = some true := by kernel_rfl
@[simp] theorem tyStr275 : eStr Go.Proofs.Tryz.prog 275 = false := by kernel_rfl
@[simp] theorem tyFld275_0 : eFld Go.Proofs.Tryz.prog 275 0 = some (9, 0) := by kernel_rfl
@[simp] theorem tyFld275_1 : eFld Go.Proofs.Tryz.prog 275 1 = some (9, 1) := by kernel_rfl
@[simp] theorem tyFld275_2 : eFld Go.Proofs.Tryz.prog 275 2 = some (127, 2) := by kernel_rfl
@[simp] theorem tyPl275 : ePl Go.Proofs.Tryz.prog 275 = some [(0, 1), (1, 1), (2, 1)] := by kernel_rfl
@[simp] theorem tyZero275 : eZero Go.Proofs.Tryz.prog 275 = some [.string .empty, .string .empty, .nilIface] := by kernel_rfl
@[simp] theorem tySz287 : eSz Go.Proofs.Tryz.prog 287 = some 1 := by kernel_rfl
@[simp] theorem tyAgg287 : eAgg Go.Proofs.Tryz.prog 287 = some false := by kernel_rfl
@[simp] theorem tyStr287 : eStr Go.Proofs.Tryz.prog 287 = false := by kernel_rfl
@[simp] theorem tyPtr287 : ePtr Go.Proofs.Tryz.prog 287 = true := by kernel_rfl
@[simp] theorem tyZero287 : eZero Go.Proofs.Tryz.prog 287 = some [.pointer none] := by kernel_rfl
@[simp] theorem tySz289 : eSz Go.Proofs.Tryz.prog 289 = some 1 := by kernel_rfl
@[simp] theorem tyAgg289 : eAgg Go.Proofs.Tryz.prog 289 = some true := by kernel_rfl
@[simp] theorem tyStr289 : eStr Go.Proofs.Tryz.prog 289 = false := by kernel_rfl
@[simp] theorem tyFld289_0 : eFld Go.Proofs.Tryz.prog 289 0 = some (9, 0) := by kernel_rfl
@[simp] theorem tyPl289 : ePl Go.Proofs.Tryz.prog 289 = some [(0, 1)] := by kernel_rfl
@[simp] theorem tyZero289 : eZero Go.Proofs.Tryz.prog 289 = some [.string .empty] := by kernel_rfl
@[simp] theorem tySz290 : eSz Go.Proofs.Tryz.prog 290 = some 32 := by kernel_rfl
@[simp] theorem tyAgg290 : eAgg Go.Proofs.Tryz.prog 290 = some true := by kernel_rfl
@[simp] theorem tyStr290 : eStr Go.Proofs.Tryz.prog 290 = false := by kernel_rfl
@[simp] theorem tyArr290 : eArr Go.Proofs.Tryz.prog 290 = some (5, 32, 1) := by kernel_rfl
@[simp] theorem tyZero290 : eZero Go.Proofs.Tryz.prog 290 = some [.int .u8 0, .int .u8 0, .int .u8 0, .int .u8 0, .int .u8 0, .int .u8 0, .int .u8 0, .int .u8 0, .int .u8 0, .int .u8 0, .int .u8 0, .int .u8 0, .int .u8 0, .int .u8 0, .int .u8 0, .int .u8 0, .int .u8 0, .int .u8 0, .int .u8 0, .int .u8 0, .int .u8 0, .int .u8 0, .int .u8 0, .int .u8 0, .int .u8 0, .int .u8 0, .int .u8 0, .int .u8 0, .int .u8 0, .int .u8 0, .int .u8 0, .int .u8 0] := by kernel_rfl
@[simp] theorem tySz291 : eSz Go.Proofs.Tryz.prog 291 = some 64 := by kernel_rfl
@[simp] theorem tyAgg291 : eAgg Go.Proofs.Tryz.prog 291 = some true := by kernel_rfl
@[simp] theorem tyStr291 : eStr Go.Proofs.Tryz.prog 291 = false := by kernel_rfl
@[simp] theorem tyArr291 : eArr Go.Proofs.Tryz.prog 291 = some (5, 64, 1) := by kernel_rfl
@[simp] theorem tyZeroV3 : eZeroV Go.Proofs.Tryz.prog 3 = some (.int .i64 0) := by kernel_rfl
@[simp] theorem tyEq35 : eEq Go.Proofs.Tryz.prog 35 = some [1, 0, 0] := by kernel_rfl
@[simp] theorem tyEq81 : eEq Go.Proofs.Tryz.prog 81 = some [0, 2] := by kernel_rfl
@[simp] theorem tyEq94 : eEq Go.Proofs.Tryz.prog 94 = some [1, 1, 1, 1, 1, 2, 1, 2] := by kernel_rfl
@[simp] theorem tyEq226 : eEq Go.Proofs.Tryz.prog 226 = some [0, 1] := by kernel_rfl
@[simp] theorem tyEq269 : eEq Go.Proofs.Tryz.prog 269 = some [0, 0] := by kernel_rfl
@[simp] theorem tyEq289 : eEq Go.Proofs.Tryz.prog 289 = some [1] := by kernel_rfl
end Go.Lw
