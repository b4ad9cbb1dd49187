/-
  CLOSED FACTS ON THE TYPES OF THIS PROGRAM (printed by a program of ours; each is checked by the kernel).
-/
import Derived.Test.YtnainpghpjelcaaGreatDoorLwRun
import Derived.Test.YtnainpghpjelcaaGreatDoorRows
set_option linter.unusedSimpArgs false
set_option linter.unusedVariables false
namespace Go.Lw
@[simp] theorem tySz0 : eSz Go.Proofs.Tryz.prog 0 = some 1 := by kernel_rfl
@[simp] theorem tyAgg0 : eAgg Go.Proofs.Tryz.prog 0 = some false := by kernel_rfl
@[simp] theorem tyStr0 : eStr Go.Proofs.Tryz.prog 0 = false := by kernel_rfl
@[simp] theorem tySz1 : eSz Go.Proofs.Tryz.prog 1 = some 1 := by kernel_rfl
@[simp] theorem tyAgg1 : eAgg Go.Proofs.Tryz.prog 1 = some false := by kernel_rfl
@[simp] theorem tyStr1 : eStr Go.Proofs.Tryz.prog 1 = false := by kernel_rfl
@[simp] theorem tyZero1 : eZero Go.Proofs.Tryz.prog 1 = some [.nilFunc] := by kernel_rfl
@[simp] theorem tySz2 : eSz Go.Proofs.Tryz.prog 2 = some 1 := by kernel_rfl
@[simp] theorem tyAgg2 : eAgg Go.Proofs.Tryz.prog 2 = some false := by kernel_rfl
@[simp] theorem tyStr2 : eStr Go.Proofs.Tryz.prog 2 = false := by kernel_rfl
@[simp] theorem tyInt2 : eInt Go.Proofs.Tryz.prog 2 = some .i64 := by kernel_rfl
@[simp] theorem tyZero2 : eZero Go.Proofs.Tryz.prog 2 = some [.int .i64 0] := by kernel_rfl
@[simp] theorem tySz3 : eSz Go.Proofs.Tryz.prog 3 = some 1 := by kernel_rfl
@[simp] theorem tyAgg3 : eAgg Go.Proofs.Tryz.prog 3 = some false := by kernel_rfl
@[simp] theorem tyStr3 : eStr Go.Proofs.Tryz.prog 3 = false := by kernel_rfl
@[simp] theorem tyInt3 : eInt Go.Proofs.Tryz.prog 3 = some .i64 := by kernel_rfl
@[simp] theorem tyZero3 : eZero Go.Proofs.Tryz.prog 3 = some [.int .i64 0] := by kernel_rfl
@[simp] theorem tySz4 : eSz Go.Proofs.Tryz.prog 4 = some 1 := by kernel_rfl
@[simp] theorem tyAgg4 : eAgg Go.Proofs.Tryz.prog 4 = some false := by kernel_rfl
@[simp] theorem tyStr4 : eStr Go.Proofs.Tryz.prog 4 = false := by kernel_rfl
@[simp] theorem tyBool4 : eBool Go.Proofs.Tryz.prog 4 = true := by kernel_rfl
@[simp] theorem tyZero4 : eZero Go.Proofs.Tryz.prog 4 = some [.bool false] := by kernel_rfl
@[simp] theorem tySz5 : eSz Go.Proofs.Tryz.prog 5 = some 1 := by kernel_rfl
@[simp] theorem tyAgg5 : eAgg Go.Proofs.Tryz.prog 5 = some false := by kernel_rfl
@[simp] theorem tyStr5 : eStr Go.Proofs.Tryz.prog 5 = false := by kernel_rfl
@[simp] theorem tyInt5 : eInt Go.Proofs.Tryz.prog 5 = some .u8 := by kernel_rfl
@[simp] theorem tyZero5 : eZero Go.Proofs.Tryz.prog 5 = some [.int .u8 0] := by kernel_rfl
@[simp] theorem tySz6 : eSz Go.Proofs.Tryz.prog 6 = some 1 := by kernel_rfl
@[simp] theorem tyAgg6 : eAgg Go.Proofs.Tryz.prog 6 = some false := by kernel_rfl
@[simp] theorem tyStr6 : eStr Go.Proofs.Tryz.prog 6 = false := by kernel_rfl
@[simp] theorem tyInt6 : eInt Go.Proofs.Tryz.prog 6 = some .u8 := by kernel_rfl
@[simp] theorem tyZero6 : eZero Go.Proofs.Tryz.prog 6 = some [.int .u8 0] := by kernel_rfl
@[simp] theorem tySz7 : eSz Go.Proofs.Tryz.prog 7 = some 4 := by kernel_rfl
@[simp] theorem tyAgg7 : eAgg Go.Proofs.Tryz.prog 7 = some true := by kernel_rfl
@[simp] theorem tyStr7 : eStr Go.Proofs.Tryz.prog 7 = false := by kernel_rfl
@[simp] theorem tyFld7_0 : eFld Go.Proofs.Tryz.prog 7 0 = some (2, 0) := by kernel_rfl
@[simp] theorem tyFld7_1 : eFld Go.Proofs.Tryz.prog 7 1 = some (3, 1) := by kernel_rfl
@[simp] theorem tyFld7_2 : eFld Go.Proofs.Tryz.prog 7 2 = some (4, 2) := by kernel_rfl
@[simp] theorem tyFld7_3 : eFld Go.Proofs.Tryz.prog 7 3 = some (6, 3) := by kernel_rfl
@[simp] theorem tyPl7 : ePl Go.Proofs.Tryz.prog 7 = some [(0, 1), (1, 1), (2, 1), (3, 1)] := by kernel_rfl
@[simp] theorem tyZero7 : eZero Go.Proofs.Tryz.prog 7 = some [.int .i64 0, .int .i64 0, .bool false, .int .u8 0] := by kernel_rfl
@[simp] theorem tySz8 : eSz Go.Proofs.Tryz.prog 8 = some 4 := by kernel_rfl
@[simp] theorem tyAgg8 : eAgg Go.Proofs.Tryz.prog 8 = some true := by kernel_rfl
@[simp] theorem tyStr8 : eStr Go.Proofs.Tryz.prog 8 = false := by kernel_rfl
@[simp] theorem tyFld8_0 : eFld Go.Proofs.Tryz.prog 8 0 = some (2, 0) := by kernel_rfl
@[simp] theorem tyFld8_1 : eFld Go.Proofs.Tryz.prog 8 1 = some (3, 1) := by kernel_rfl
@[simp] theorem tyFld8_2 : eFld Go.Proofs.Tryz.prog 8 2 = some (4, 2) := by kernel_rfl
@[simp] theorem tyFld8_3 : eFld Go.Proofs.Tryz.prog 8 3 = some (6, 3) := by kernel_rfl
@[simp] theorem tyPl8 : ePl Go.Proofs.Tryz.prog 8 = some [(0, 1), (1, 1), (2, 1), (3, 1)] := by kernel_rfl
@[simp] theorem tyZero8 : eZero Go.Proofs.Tryz.prog 8 = some [.int .i64 0, .int .i64 0, .bool false, .int .u8 0] := by kernel_rfl
@[simp] theorem tySz9 : eSz Go.Proofs.Tryz.prog 9 = some 1 := by kernel_rfl
@[simp] theorem tyAgg9 : eAgg Go.Proofs.Tryz.prog 9 = some false := by kernel_rfl
@[simp] theorem tyStr9 : eStr Go.Proofs.Tryz.prog 9 = true := by kernel_rfl
@[simp] theorem tyInt9 : eInt Go.Proofs.Tryz.prog 9 = none := by kernel_rfl
@[simp] theorem tyZero9 : eZero Go.Proofs.Tryz.prog 9 = some [.string .empty] := by kernel_rfl
@[simp] theorem tySz10 : eSz Go.Proofs.Tryz.prog 10 = some 1 := by kernel_rfl
@[simp] theorem tyAgg10 : eAgg Go.Proofs.Tryz.prog 10 = some false := by kernel_rfl
@[simp] theorem tyStr10 : eStr Go.Proofs.Tryz.prog 10 = true := by kernel_rfl
@[simp] theorem tyInt10 : eInt Go.Proofs.Tryz.prog 10 = none := by kernel_rfl
@[simp] theorem tyZero10 : eZero Go.Proofs.Tryz.prog 10 = some [.string .empty] := by kernel_rfl
@[simp] theorem tySz11 : eSz Go.Proofs.Tryz.prog 11 = some 1 := by kernel_rfl
@[simp] theorem tyAgg11 : eAgg Go.Proofs.Tryz.prog 11 = some false := by kernel_rfl
@[simp] theorem tyStr11 : eStr Go.Proofs.Tryz.prog 11 = true := by kernel_rfl
@[simp] theorem tyInt11 : eInt Go.Proofs.Tryz.prog 11 = none := by kernel_rfl
@[simp] theorem tyZero11 : eZero Go.Proofs.Tryz.prog 11 = some [.string .empty] := by kernel_rfl
@[simp] theorem tySz12 : eSz Go.Proofs.Tryz.prog 12 = some 1 := by kernel_rfl
@[simp] theorem tyAgg12 : eAgg Go.Proofs.Tryz.prog 12 = some false := by kernel_rfl
@[simp] theorem tyStr12 : eStr Go.Proofs.Tryz.prog 12 = false := by kernel_rfl
@[simp] theorem tyInt12 : eInt Go.Proofs.Tryz.prog 12 = some .u64 := by kernel_rfl
@[simp] theorem tyZero12 : eZero Go.Proofs.Tryz.prog 12 = some [.int .u64 0] := by kernel_rfl
@[simp] theorem tySz13 : eSz Go.Proofs.Tryz.prog 13 = some 2 := by kernel_rfl
@[simp] theorem tyAgg13 : eAgg Go.Proofs.Tryz.prog 13 = some true := by kernel_rfl
@[simp] theorem tyStr13 : eStr Go.Proofs.Tryz.prog 13 = false := by kernel_rfl
@[simp] theorem tyFld13_0 : eFld Go.Proofs.Tryz.prog 13 0 = some (9, 0) := by kernel_rfl
@[simp] theorem tyFld13_1 : eFld Go.Proofs.Tryz.prog 13 1 = some (12, 1) := by kernel_rfl
@[simp] theorem tyPl13 : ePl Go.Proofs.Tryz.prog 13 = some [(0, 1), (1, 1)] := by kernel_rfl
@[simp] theorem tyZero13 : eZero Go.Proofs.Tryz.prog 13 = some [.string .empty, .int .u64 0] := by kernel_rfl
@[simp] theorem tySz14 : eSz Go.Proofs.Tryz.prog 14 = some 2 := by kernel_rfl
@[simp] theorem tyAgg14 : eAgg Go.Proofs.Tryz.prog 14 = some true := by kernel_rfl
@[simp] theorem tyStr14 : eStr Go.Proofs.Tryz.prog 14 = false := by kernel_rfl
@[simp] theorem tyFld14_0 : eFld Go.Proofs.Tryz.prog 14 0 = some (9, 0) := by kernel_rfl
@[simp] theorem tyFld14_1 : eFld Go.Proofs.Tryz.prog 14 1 = some (12, 1) := by kernel_rfl
@[simp] theorem tyPl14 : ePl Go.Proofs.Tryz.prog 14 = some [(0, 1), (1, 1)] := by kernel_rfl
@[simp] theorem tyZero14 : eZero Go.Proofs.Tryz.prog 14 = some [.string .empty, .int .u64 0] := by kernel_rfl
@[simp] theorem tySz15 : eSz Go.Proofs.Tryz.prog 15 = some 1 := by kernel_rfl
@[simp] theorem tyAgg15 : eAgg Go.Proofs.Tryz.prog 15 = some false := by kernel_rfl
@[simp] theorem tyStr15 : eStr Go.Proofs.Tryz.prog 15 = false := by kernel_rfl
@[simp] theorem tyPtr15 : ePtr Go.Proofs.Tryz.prog 15 = true := by kernel_rfl
@[simp] theorem tyZero15 : eZero Go.Proofs.Tryz.prog 15 = some [.pointer none] := by kernel_rfl
@[simp] theorem tySz16 : eSz Go.Proofs.Tryz.prog 16 = some 1 := by kernel_rfl
@[simp] theorem tyAgg16 : eAgg Go.Proofs.Tryz.prog 16 = some false := by kernel_rfl
@[simp] theorem tyStr16 : eStr Go.Proofs.Tryz.prog 16 = false := by kernel_rfl
@[simp] theorem tyPtr16 : ePtr Go.Proofs.Tryz.prog 16 = false := by kernel_rfl
@[simp] theorem tyZero16 : eZero Go.Proofs.Tryz.prog 16 = some [.pointer none] := by kernel_rfl
@[simp] theorem tySz17 : eSz Go.Proofs.Tryz.prog 17 = some 1 := by kernel_rfl
@[simp] theorem tyAgg17 : eAgg Go.Proofs.Tryz.prog 17 = some false := by kernel_rfl
@[simp] theorem tyStr17 : eStr Go.Proofs.Tryz.prog 17 = false := by kernel_rfl
@[simp] theorem tyPtr17 : ePtr Go.Proofs.Tryz.prog 17 = true := by kernel_rfl
@[simp] theorem tyZero17 : eZero Go.Proofs.Tryz.prog 17 = some [.pointer none] := by kernel_rfl
@[simp] theorem tySz18 : eSz Go.Proofs.Tryz.prog 18 = some 1 := by kernel_rfl
@[simp] theorem tyAgg18 : eAgg Go.Proofs.Tryz.prog 18 = some true := by kernel_rfl
@[simp] theorem tyStr18 : eStr Go.Proofs.Tryz.prog 18 = false := by kernel_rfl
@[simp] theorem tyFld18_0 : eFld Go.Proofs.Tryz.prog 18 0 = some (17, 0) := by kernel_rfl
@[simp] theorem tyPl18 : ePl Go.Proofs.Tryz.prog 18 = some [(0, 1)] := by kernel_rfl
@[simp] theorem tyZero18 : eZero Go.Proofs.Tryz.prog 18 = some [.pointer none] := by kernel_rfl
@[simp] theorem tySz19 : eSz Go.Proofs.Tryz.prog 19 = some 1 := by kernel_rfl
@[simp] theorem tyAgg19 : eAgg Go.Proofs.Tryz.prog 19 = some true := by kernel_rfl
@[simp] theorem tyStr19 : eStr Go.Proofs.Tryz.prog 19 = false := by kernel_rfl
@[simp] theorem tyFld19_0 : eFld Go.Proofs.Tryz.prog 19 0 = some (17, 0) := by kernel_rfl
@[simp] theorem tyPl19 : ePl Go.Proofs.Tryz.prog 19 = some [(0, 1)] := by kernel_rfl
@[simp] theorem tyZero19 : eZero Go.Proofs.Tryz.prog 19 = some [.pointer none] := by kernel_rfl
@[simp] theorem tySz20 : eSz Go.Proofs.Tryz.prog 20 = some 1 := by kernel_rfl
@[simp] theorem tyAgg20 : eAgg Go.Proofs.Tryz.prog 20 = some false := by kernel_rfl
@[simp] theorem tyStr20 : eStr Go.Proofs.Tryz.prog 20 = false := by kernel_rfl
@[simp] theorem tyZero20 : eZero Go.Proofs.Tryz.prog 20 = some [.nilIface] := by kernel_rfl
@[simp] theorem tySz21 : eSz Go.Proofs.Tryz.prog 21 = some 1 := by kernel_rfl
@[simp] theorem tyAgg21 : eAgg Go.Proofs.Tryz.prog 21 = some false := by kernel_rfl
@[simp] theorem tyStr21 : eStr Go.Proofs.Tryz.prog 21 = false := by kernel_rfl
@[simp] theorem tyInt21 : eInt Go.Proofs.Tryz.prog 21 = some .i32 := by kernel_rfl
@[simp] theorem tyZero21 : eZero Go.Proofs.Tryz.prog 21 = some [.int .i32 0] := by kernel_rfl
@[simp] theorem tySz22 : eSz Go.Proofs.Tryz.prog 22 = some 1 := by kernel_rfl
@[simp] theorem tyAgg22 : eAgg Go.Proofs.Tryz.prog 22 = some false := by kernel_rfl
@[simp] theorem tyElem22 : eElem Go.Proofs.Tryz.prog 22 = some (35, 3) := by kernel_rfl
@[simp] theorem tyBytes35 : eBytes Go.Proofs.Tryz.prog 35 = some 32 := by kernel_rfl
@[simp] theorem tyStr22 : eStr Go.Proofs.Tryz.prog 22 = false := by kernel_rfl
@[simp] theorem tyZero22 : eZero Go.Proofs.Tryz.prog 22 = some [.slice none 0 0] := by kernel_rfl
@[simp] theorem tySz23 : eSz Go.Proofs.Tryz.prog 23 = some 1 := by kernel_rfl
@[simp] theorem tyAgg23 : eAgg Go.Proofs.Tryz.prog 23 = some false := by kernel_rfl
@[simp] theorem tyElem23 : eElem Go.Proofs.Tryz.prog 23 = some (92, 4) := by kernel_rfl
@[simp] theorem tyBytes92 : eBytes Go.Proofs.Tryz.prog 92 = some 56 := by kernel_rfl
@[simp] theorem tyStr23 : eStr Go.Proofs.Tryz.prog 23 = false := by kernel_rfl
@[simp] theorem tyZero23 : eZero Go.Proofs.Tryz.prog 23 = some [.slice none 0 0] := by kernel_rfl
@[simp] theorem tySz24 : eSz Go.Proofs.Tryz.prog 24 = some 4 := by kernel_rfl
@[simp] theorem tyAgg24 : eAgg Go.Proofs.Tryz.prog 24 = some true := by kernel_rfl
@[simp] theorem tyStr24 : eStr Go.Proofs.Tryz.prog 24 = false := by kernel_rfl
@[simp] theorem tyFld24_0 : eFld Go.Proofs.Tryz.prog 24 0 = some (22, 0) := by kernel_rfl
@[simp] theorem tyFld24_1 : eFld Go.Proofs.Tryz.prog 24 1 = some (23, 1) := by kernel_rfl
@[simp] theorem tyFld24_2 : eFld Go.Proofs.Tryz.prog 24 2 = some (3, 2) := by kernel_rfl
@[simp] theorem tyFld24_3 : eFld Go.Proofs.Tryz.prog 24 3 = some (3, 3) := by kernel_rfl
@[simp] theorem tyPl24 : ePl Go.Proofs.Tryz.prog 24 = some [(0, 1), (1, 1), (2, 1), (3, 1)] := by kernel_rfl
@[simp] theorem tyZero24 : eZero Go.Proofs.Tryz.prog 24 = some [.slice none 0 0, .slice none 0 0, .int .i64 0, .int .i64 0] := by kernel_rfl
@[simp] theorem tySz25 : eSz Go.Proofs.Tryz.prog 25 = some 4 := by kernel_rfl
@[simp] theorem tyAgg25 : eAgg Go.Proofs.Tryz.prog 25 = some true := by kernel_rfl
@[simp] theorem tyStr25 : eStr Go.Proofs.Tryz.prog 25 = false := by kernel_rfl
@[simp] theorem tyFld25_0 : eFld Go.Proofs.Tryz.prog 25 0 = some (22, 0) := by kernel_rfl
@[simp] theorem tyFld25_1 : eFld Go.Proofs.Tryz.prog 25 1 = some (23, 1) := by kernel_rfl
@[simp] theorem tyFld25_2 : eFld Go.Proofs.Tryz.prog 25 2 = some (3, 2) := by kernel_rfl
@[simp] theorem tyFld25_3 : eFld Go.Proofs.Tryz.prog 25 3 = some (3, 3) := by kernel_rfl
@[simp] theorem tyPl25 : ePl Go.Proofs.Tryz.prog 25 = some [(0, 1), (1, 1), (2, 1), (3, 1)] := by kernel_rfl
@[simp] theorem tyZero25 : eZero Go.Proofs.Tryz.prog 25 = some [.slice none 0 0, .slice none 0 0, .int .i64 0, .int .i64 0] := by kernel_rfl
@[simp] theorem tySz26 : eSz Go.Proofs.Tryz.prog 26 = some 1 := by kernel_rfl
@[simp] theorem tyAgg26 : eAgg Go.Proofs.Tryz.prog 26 = some false := by kernel_rfl
@[simp] theorem tyStr26 : eStr Go.Proofs.Tryz.prog 26 = false := by kernel_rfl
@[simp] theorem tyInt26 : eInt Go.Proofs.Tryz.prog 26 = some .i64 := by kernel_rfl
@[simp] theorem tyZero26 : eZero Go.Proofs.Tryz.prog 26 = some [.int .i64 0] := by kernel_rfl
@[simp] theorem tySz27 : eSz Go.Proofs.Tryz.prog 27 = some 1 := by kernel_rfl
@[simp] theorem tyAgg27 : eAgg Go.Proofs.Tryz.prog 27 = some false := by kernel_rfl
@[simp] theorem tyStr27 : eStr Go.Proofs.Tryz.prog 27 = false := by kernel_rfl
@[simp] theorem tySz28 : eSz Go.Proofs.Tryz.prog 28 = some 1 := by kernel_rfl
@[simp] theorem tyAgg28 : eAgg Go.Proofs.Tryz.prog 28 = some false := by kernel_rfl
@[simp] theorem tyStr28 : eStr Go.Proofs.Tryz.prog 28 = false := by kernel_rfl
@[simp] theorem tyZero28 : eZero Go.Proofs.Tryz.prog 28 = some [.nilFunc] := by kernel_rfl
@[simp] theorem tySz29 : eSz Go.Proofs.Tryz.prog 29 = some 1 := by kernel_rfl
@[simp] theorem tyAgg29 : eAgg Go.Proofs.Tryz.prog 29 = some false := by kernel_rfl
@[simp] theorem tyStr29 : eStr Go.Proofs.Tryz.prog 29 = false := by kernel_rfl
@[simp] theorem tyZero29 : eZero Go.Proofs.Tryz.prog 29 = some [.nilFunc] := by kernel_rfl
@[simp] theorem tySz30 : eSz Go.Proofs.Tryz.prog 30 = some 1 := by kernel_rfl
@[simp] theorem tyAgg30 : eAgg Go.Proofs.Tryz.prog 30 = some false := by kernel_rfl
@[simp] theorem tyStr30 : eStr Go.Proofs.Tryz.prog 30 = false := by kernel_rfl
@[simp] theorem tySz31 : eSz Go.Proofs.Tryz.prog 31 = some 1 := by kernel_rfl
@[simp] theorem tyAgg31 : eAgg Go.Proofs.Tryz.prog 31 = some false := by kernel_rfl
@[simp] theorem tyStr31 : eStr Go.Proofs.Tryz.prog 31 = false := by kernel_rfl
@[simp] theorem tyZero31 : eZero Go.Proofs.Tryz.prog 31 = some [.nilFunc] := by kernel_rfl
@[simp] theorem tySz32 : eSz Go.Proofs.Tryz.prog 32 = some 1 := by kernel_rfl
@[simp] theorem tyAgg32 : eAgg Go.Proofs.Tryz.prog 32 = some false := by kernel_rfl
@[simp] theorem tyStr32 : eStr Go.Proofs.Tryz.prog 32 = false := by kernel_rfl
@[simp] theorem tyZero32 : eZero Go.Proofs.Tryz.prog 32 = some [.nilFunc] := by kernel_rfl
@[simp] theorem tySz33 : eSz Go.Proofs.Tryz.prog 33 = some 1 := by kernel_rfl
@[simp] theorem tyAgg33 : eAgg Go.Proofs.Tryz.prog 33 = some false := by kernel_rfl
@[simp] theorem tyStr33 : eStr Go.Proofs.Tryz.prog 33 = false := by kernel_rfl
@[simp] theorem tyZero33 : eZero Go.Proofs.Tryz.prog 33 = some [.nilFunc] := by kernel_rfl
@[simp] theorem tySz34 : eSz Go.Proofs.Tryz.prog 34 = some 3 := by kernel_rfl
@[simp] theorem tyAgg34 : eAgg Go.Proofs.Tryz.prog 34 = some true := by kernel_rfl
@[simp] theorem tyStr34 : eStr Go.Proofs.Tryz.prog 34 = false := by kernel_rfl
@[simp] theorem tyFld34_0 : eFld Go.Proofs.Tryz.prog 34 0 = some (9, 0) := by kernel_rfl
@[simp] theorem tyFld34_1 : eFld Go.Proofs.Tryz.prog 34 1 = some (3, 1) := by kernel_rfl
@[simp] theorem tyFld34_2 : eFld Go.Proofs.Tryz.prog 34 2 = some (3, 2) := by kernel_rfl
@[simp] theorem tyPl34 : ePl Go.Proofs.Tryz.prog 34 = some [(0, 1), (1, 1), (2, 1)] := by kernel_rfl
@[simp] theorem tyZero34 : eZero Go.Proofs.Tryz.prog 34 = some [.string .empty, .int .i64 0, .int .i64 0] := by kernel_rfl
@[simp] theorem tySz35 : eSz Go.Proofs.Tryz.prog 35 = some 3 := by kernel_rfl
@[simp] theorem tyAgg35 : eAgg Go.Proofs.Tryz.prog 35 = some true := by kernel_rfl
@[simp] theorem tyStr35 : eStr Go.Proofs.Tryz.prog 35 = false := by kernel_rfl
@[simp] theorem tyFld35_0 : eFld Go.Proofs.Tryz.prog 35 0 = some (9, 0) := by kernel_rfl
@[simp] theorem tyFld35_1 : eFld Go.Proofs.Tryz.prog 35 1 = some (3, 1) := by kernel_rfl
@[simp] theorem tyFld35_2 : eFld Go.Proofs.Tryz.prog 35 2 = some (3, 2) := by kernel_rfl
@[simp] theorem tyPl35 : ePl Go.Proofs.Tryz.prog 35 = some [(0, 1), (1, 1), (2, 1)] := by kernel_rfl
@[simp] theorem tyZero35 : eZero Go.Proofs.Tryz.prog 35 = some [.string .empty, .int .i64 0, .int .i64 0] := by kernel_rfl
@[simp] theorem tySz36 : eSz Go.Proofs.Tryz.prog 36 = some 1 := by kernel_rfl
@[simp] theorem tyAgg36 : eAgg Go.Proofs.Tryz.prog 36 = some false := by kernel_rfl
@[simp] theorem tyStr36 : eStr Go.Proofs.Tryz.prog 36 = false := by kernel_rfl
@[simp] theorem tySz37 : eSz Go.Proofs.Tryz.prog 37 = some 1 := by kernel_rfl
@[simp] theorem tyAgg37 : eAgg Go.Proofs.Tryz.prog 37 = some false := by kernel_rfl
@[simp] theorem tyStr37 : eStr Go.Proofs.Tryz.prog 37 = false := by kernel_rfl
@[simp] theorem tyZero37 : eZero Go.Proofs.Tryz.prog 37 = some [.nilFunc] := by kernel_rfl
@[simp] theorem tySz38 : eSz Go.Proofs.Tryz.prog 38 = some 1 := by kernel_rfl
@[simp] theorem tyAgg38 : eAgg Go.Proofs.Tryz.prog 38 = some false := by kernel_rfl
@[simp] theorem tyStr38 : eStr Go.Proofs.Tryz.prog 38 = false := by kernel_rfl
@[simp] theorem tyZero38 : eZero Go.Proofs.Tryz.prog 38 = some [.nilFunc] := by kernel_rfl
@[simp] theorem tySz39 : eSz Go.Proofs.Tryz.prog 39 = some 1 := by kernel_rfl
@[simp] theorem tyAgg39 : eAgg Go.Proofs.Tryz.prog 39 = some false := by kernel_rfl
@[simp] theorem tyStr39 : eStr Go.Proofs.Tryz.prog 39 = false := by kernel_rfl
@[simp] theorem tyZero39 : eZero Go.Proofs.Tryz.prog 39 = some [.nilFunc] := by kernel_rfl
@[simp] theorem tySz40 : eSz Go.Proofs.Tryz.prog 40 = some 5 := by kernel_rfl
@[simp] theorem tyAgg40 : eAgg Go.Proofs.Tryz.prog 40 = some true := by kernel_rfl
@[simp] theorem tyStr40 : eStr Go.Proofs.Tryz.prog 40 = false := by kernel_rfl
@[simp] theorem tyFld40_0 : eFld Go.Proofs.Tryz.prog 40 0 = some (3, 0) := by kernel_rfl
@[simp] theorem tyFld40_1 : eFld Go.Proofs.Tryz.prog 40 1 = some (3, 1) := by kernel_rfl
@[simp] theorem tyFld40_2 : eFld Go.Proofs.Tryz.prog 40 2 = some (3, 2) := by kernel_rfl
@[simp] theorem tyFld40_3 : eFld Go.Proofs.Tryz.prog 40 3 = some (3, 3) := by kernel_rfl
@[simp] theorem tyFld40_4 : eFld Go.Proofs.Tryz.prog 40 4 = some (3, 4) := by kernel_rfl
@[simp] theorem tyPl40 : ePl Go.Proofs.Tryz.prog 40 = some [(0, 1), (1, 1), (2, 1), (3, 1), (4, 1)] := by kernel_rfl
@[simp] theorem tyZero40 : eZero Go.Proofs.Tryz.prog 40 = some [.int .i64 0, .int .i64 0, .int .i64 0, .int .i64 0, .int .i64 0] := by kernel_rfl
@[simp] theorem tySz41 : eSz Go.Proofs.Tryz.prog 41 = some 5 := by kernel_rfl
@[simp] theorem tyAgg41 : eAgg Go.Proofs.Tryz.prog 41 = some true := by kernel_rfl
@[simp] theorem tyStr41 : eStr Go.Proofs.Tryz.prog 41 = false := by kernel_rfl
@[simp] theorem tyFld41_0 : eFld Go.Proofs.Tryz.prog 41 0 = some (3, 0) := by kernel_rfl
@[simp] theorem tyFld41_1 : eFld Go.Proofs.Tryz.prog 41 1 = some (3, 1) := by kernel_rfl
@[simp] theorem tyFld41_2 : eFld Go.Proofs.Tryz.prog 41 2 = some (3, 2) := by kernel_rfl
@[simp] theorem tyFld41_3 : eFld Go.Proofs.Tryz.prog 41 3 = some (3, 3) := by kernel_rfl
@[simp] theorem tyFld41_4 : eFld Go.Proofs.Tryz.prog 41 4 = some (3, 4) := by kernel_rfl
@[simp] theorem tyPl41 : ePl Go.Proofs.Tryz.prog 41 = some [(0, 1), (1, 1), (2, 1), (3, 1), (4, 1)] := by kernel_rfl
@[simp] theorem tyZero41 : eZero Go.Proofs.Tryz.prog 41 = some [.int .i64 0, .int .i64 0, .int .i64 0, .int .i64 0, .int .i64 0] := by kernel_rfl
@[simp] theorem tySz42 : eSz Go.Proofs.Tryz.prog 42 = some 1 := by kernel_rfl
@[simp] theorem tyAgg42 : eAgg Go.Proofs.Tryz.prog 42 = some false := by kernel_rfl
@[simp] theorem tyStr42 : eStr Go.Proofs.Tryz.prog 42 = false := by kernel_rfl
@[simp] theorem tyZero42 : eZero Go.Proofs.Tryz.prog 42 = some [.nilFunc] := by kernel_rfl
@[simp] theorem tySz43 : eSz Go.Proofs.Tryz.prog 43 = some 1 := by kernel_rfl
@[simp] theorem tyAgg43 : eAgg Go.Proofs.Tryz.prog 43 = some false := by kernel_rfl
@[simp] theorem tyStr43 : eStr Go.Proofs.Tryz.prog 43 = false := by kernel_rfl
@[simp] theorem tyZero43 : eZero Go.Proofs.Tryz.prog 43 = some [.nilFunc] := by kernel_rfl
@[simp] theorem tySz44 : eSz Go.Proofs.Tryz.prog 44 = some 1 := by kernel_rfl
@[simp] theorem tyAgg44 : eAgg Go.Proofs.Tryz.prog 44 = some false := by kernel_rfl
@[simp] theorem tyStr44 : eStr Go.Proofs.Tryz.prog 44 = false := by kernel_rfl
@[simp] theorem tyZero44 : eZero Go.Proofs.Tryz.prog 44 = some [.nilFunc] := by kernel_rfl
@[simp] theorem tySz45 : eSz Go.Proofs.Tryz.prog 45 = some 1 := by kernel_rfl
@[simp] theorem tyAgg45 : eAgg Go.Proofs.Tryz.prog 45 = some false := by kernel_rfl
@[simp] theorem tyElem45 : eElem Go.Proofs.Tryz.prog 45 = some (106, 2) := by kernel_rfl
@[simp] theorem tyBytes106 : eBytes Go.Proofs.Tryz.prog 106 = some 16 := by kernel_rfl
@[simp] theorem tyStr45 : eStr Go.Proofs.Tryz.prog 45 = false := by kernel_rfl
@[simp] theorem tyZero45 : eZero Go.Proofs.Tryz.prog 45 = some [.slice none 0 0] := by kernel_rfl
@[simp] theorem tySz46 : eSz Go.Proofs.Tryz.prog 46 = some 1 := by kernel_rfl
@[simp] theorem tyAgg46 : eAgg Go.Proofs.Tryz.prog 46 = some false := by kernel_rfl
@[simp] theorem tyElem46 : eElem Go.Proofs.Tryz.prog 46 = some (115, 3) := by kernel_rfl
@[simp] theorem tyBytes115 : eBytes Go.Proofs.Tryz.prog 115 = some 32 := by kernel_rfl
@[simp] theorem tyStr46 : eStr Go.Proofs.Tryz.prog 46 = false := by kernel_rfl
@[simp] theorem tyZero46 : eZero Go.Proofs.Tryz.prog 46 = some [.slice none 0 0] := by kernel_rfl
@[simp] theorem tySz47 : eSz Go.Proofs.Tryz.prog 47 = some 1 := by kernel_rfl
@[simp] theorem tyAgg47 : eAgg Go.Proofs.Tryz.prog 47 = some false := by kernel_rfl
@[simp] theorem tyElem47 : eElem Go.Proofs.Tryz.prog 47 = some (113, 2) := by kernel_rfl
@[simp] theorem tyBytes113 : eBytes Go.Proofs.Tryz.prog 113 = some 24 := by kernel_rfl
@[simp] theorem tyStr47 : eStr Go.Proofs.Tryz.prog 47 = false := by kernel_rfl
@[simp] theorem tyZero47 : eZero Go.Proofs.Tryz.prog 47 = some [.slice none 0 0] := by kernel_rfl
@[simp] theorem tySz48 : eSz Go.Proofs.Tryz.prog 48 = some 1 := by kernel_rfl
@[simp] theorem tyAgg48 : eAgg Go.Proofs.Tryz.prog 48 = some false := by kernel_rfl
@[simp] theorem tyElem48 : eElem Go.Proofs.Tryz.prog 48 = some (3, 1) := by kernel_rfl
@[simp] theorem tyBytes3 : eBytes Go.Proofs.Tryz.prog 3 = some 8 := by kernel_rfl
@[simp] theorem tyStr48 : eStr Go.Proofs.Tryz.prog 48 = false := by kernel_rfl
@[simp] theorem tyZero48 : eZero Go.Proofs.Tryz.prog 48 = some [.slice none 0 0] := by kernel_rfl
@[simp] theorem tySz49 : eSz Go.Proofs.Tryz.prog 49 = some 1 := by kernel_rfl
@[simp] theorem tyAgg49 : eAgg Go.Proofs.Tryz.prog 49 = some false := by kernel_rfl
@[simp] theorem tyStr49 : eStr Go.Proofs.Tryz.prog 49 = false := by kernel_rfl
@[simp] theorem tySz50 : eSz Go.Proofs.Tryz.prog 50 = some 1 := by kernel_rfl
@[simp] theorem tyAgg50 : eAgg Go.Proofs.Tryz.prog 50 = some false := by kernel_rfl
@[simp] theorem tyStr50 : eStr Go.Proofs.Tryz.prog 50 = false := by kernel_rfl
@[simp] theorem tyZero50 : eZero Go.Proofs.Tryz.prog 50 = some [.nilFunc] := by kernel_rfl
@[simp] theorem tySz51 : eSz Go.Proofs.Tryz.prog 51 = some 1 := by kernel_rfl
@[simp] theorem tyAgg51 : eAgg Go.Proofs.Tryz.prog 51 = some false := by kernel_rfl
@[simp] theorem tyStr51 : eStr Go.Proofs.Tryz.prog 51 = false := by kernel_rfl
@[simp] theorem tyZero51 : eZero Go.Proofs.Tryz.prog 51 = some [.nilFunc] := by kernel_rfl
@[simp] theorem tySz52 : eSz Go.Proofs.Tryz.prog 52 = some 1 := by kernel_rfl
@[simp] theorem tyAgg52 : eAgg Go.Proofs.Tryz.prog 52 = some false := by kernel_rfl
@[simp] theorem tyStr52 : eStr Go.Proofs.Tryz.prog 52 = false := by kernel_rfl
@[simp] theorem tyZero52 : eZero Go.Proofs.Tryz.prog 52 = some [.nilFunc] := by kernel_rfl
@[simp] theorem tySz53 : eSz Go.Proofs.Tryz.prog 53 = some 1 := by kernel_rfl
@[simp] theorem tyAgg53 : eAgg Go.Proofs.Tryz.prog 53 = some false := by kernel_rfl
@[simp] theorem tyStr53 : eStr Go.Proofs.Tryz.prog 53 = false := by kernel_rfl
@[simp] theorem tyZero53 : eZero Go.Proofs.Tryz.prog 53 = some [.nilFunc] := by kernel_rfl
@[simp] theorem tySz54 : eSz Go.Proofs.Tryz.prog 54 = some 1 := by kernel_rfl
@[simp] theorem tyAgg54 : eAgg Go.Proofs.Tryz.prog 54 = some false := by kernel_rfl
@[simp] theorem tyStr54 : eStr Go.Proofs.Tryz.prog 54 = false := by kernel_rfl
@[simp] theorem tySz55 : eSz Go.Proofs.Tryz.prog 55 = some 1 := by kernel_rfl
@[simp] theorem tyAgg55 : eAgg Go.Proofs.Tryz.prog 55 = some false := by kernel_rfl
@[simp] theorem tyStr55 : eStr Go.Proofs.Tryz.prog 55 = false := by kernel_rfl
@[simp] theorem tyZero55 : eZero Go.Proofs.Tryz.prog 55 = some [.nilFunc] := by kernel_rfl
@[simp] theorem tySz56 : eSz Go.Proofs.Tryz.prog 56 = some 1 := by kernel_rfl
@[simp] theorem tyAgg56 : eAgg Go.Proofs.Tryz.prog 56 = some false := by kernel_rfl
@[simp] theorem tyStr56 : eStr Go.Proofs.Tryz.prog 56 = false := by kernel_rfl
@[simp] theorem tyZero56 : eZero Go.Proofs.Tryz.prog 56 = some [.nilFunc] := by kernel_rfl
@[simp] theorem tySz57 : eSz Go.Proofs.Tryz.prog 57 = some 1 := by kernel_rfl
@[simp] theorem tyAgg57 : eAgg Go.Proofs.Tryz.prog 57 = some false := by kernel_rfl
@[simp] theorem tyStr57 : eStr Go.Proofs.Tryz.prog 57 = false := by kernel_rfl
@[simp] theorem tySz58 : eSz Go.Proofs.Tryz.prog 58 = some 1 := by kernel_rfl
@[simp] theorem tyAgg58 : eAgg Go.Proofs.Tryz.prog 58 = some false := by kernel_rfl
@[simp] theorem tyStr58 : eStr Go.Proofs.Tryz.prog 58 = false := by kernel_rfl
@[simp] theorem tyZero58 : eZero Go.Proofs.Tryz.prog 58 = some [.nilFunc] := by kernel_rfl
@[simp] theorem tySz59 : eSz Go.Proofs.Tryz.prog 59 = some 1 := by kernel_rfl
@[simp] theorem tyAgg59 : eAgg Go.Proofs.Tryz.prog 59 = some false := by kernel_rfl
@[simp] theorem tyStr59 : eStr Go.Proofs.Tryz.prog 59 = false := by kernel_rfl
@[simp] theorem tyZero59 : eZero Go.Proofs.Tryz.prog 59 = some [.nilFunc] := by kernel_rfl
@[simp] theorem tySz60 : eSz Go.Proofs.Tryz.prog 60 = some 1 := by kernel_rfl
@[simp] theorem tyAgg60 : eAgg Go.Proofs.Tryz.prog 60 = some false := by kernel_rfl
@[simp] theorem tyStr60 : eStr Go.Proofs.Tryz.prog 60 = false := by kernel_rfl
@[simp] theorem tyZero60 : eZero Go.Proofs.Tryz.prog 60 = some [.nilFunc] := by kernel_rfl
@[simp] theorem tySz61 : eSz Go.Proofs.Tryz.prog 61 = some 1 := by kernel_rfl
@[simp] theorem tyAgg61 : eAgg Go.Proofs.Tryz.prog 61 = some false := by kernel_rfl
@[simp] theorem tyStr61 : eStr Go.Proofs.Tryz.prog 61 = false := by kernel_rfl
@[simp] theorem tyZero61 : eZero Go.Proofs.Tryz.prog 61 = some [.nilFunc] := by kernel_rfl
@[simp] theorem tySz62 : eSz Go.Proofs.Tryz.prog 62 = some 1 := by kernel_rfl
@[simp] theorem tyAgg62 : eAgg Go.Proofs.Tryz.prog 62 = some false := by kernel_rfl
@[simp] theorem tyElem62 : eElem Go.Proofs.Tryz.prog 62 = some (139, 2) := by kernel_rfl
@[simp] theorem tyBytes139 : eBytes Go.Proofs.Tryz.prog 139 = some 40 := by kernel_rfl
@[simp] theorem tyStr62 : eStr Go.Proofs.Tryz.prog 62 = false := by kernel_rfl
@[simp] theorem tyZero62 : eZero Go.Proofs.Tryz.prog 62 = some [.slice none 0 0] := by kernel_rfl
@[simp] theorem tySz63 : eSz Go.Proofs.Tryz.prog 63 = some 1 := by kernel_rfl
@[simp] theorem tyAgg63 : eAgg Go.Proofs.Tryz.prog 63 = some false := by kernel_rfl
@[simp] theorem tyStr63 : eStr Go.Proofs.Tryz.prog 63 = false := by kernel_rfl
@[simp] theorem tyZero63 : eZero Go.Proofs.Tryz.prog 63 = some [.nilFunc] := by kernel_rfl
@[simp] theorem tySz64 : eSz Go.Proofs.Tryz.prog 64 = some 1 := by kernel_rfl
@[simp] theorem tyAgg64 : eAgg Go.Proofs.Tryz.prog 64 = some false := by kernel_rfl
@[simp] theorem tyStr64 : eStr Go.Proofs.Tryz.prog 64 = false := by kernel_rfl
@[simp] theorem tyZero64 : eZero Go.Proofs.Tryz.prog 64 = some [.nilFunc] := by kernel_rfl
@[simp] theorem tySz65 : eSz Go.Proofs.Tryz.prog 65 = some 1 := by kernel_rfl
@[simp] theorem tyAgg65 : eAgg Go.Proofs.Tryz.prog 65 = some false := by kernel_rfl
@[simp] theorem tyElem65 : eElem Go.Proofs.Tryz.prog 65 = some (189, 3) := by kernel_rfl
@[simp] theorem tyBytes189 : eBytes Go.Proofs.Tryz.prog 189 = some 32 := by kernel_rfl
@[simp] theorem tyStr65 : eStr Go.Proofs.Tryz.prog 65 = false := by kernel_rfl
@[simp] theorem tyZero65 : eZero Go.Proofs.Tryz.prog 65 = some [.slice none 0 0] := by kernel_rfl
@[simp] theorem tySz66 : eSz Go.Proofs.Tryz.prog 66 = some 1 := by kernel_rfl
@[simp] theorem tyAgg66 : eAgg Go.Proofs.Tryz.prog 66 = some false := by kernel_rfl
@[simp] theorem tyStr66 : eStr Go.Proofs.Tryz.prog 66 = false := by kernel_rfl
@[simp] theorem tyZero66 : eZero Go.Proofs.Tryz.prog 66 = some [.nilFunc] := by kernel_rfl
@[simp] theorem tySz67 : eSz Go.Proofs.Tryz.prog 67 = some 1 := by kernel_rfl
@[simp] theorem tyAgg67 : eAgg Go.Proofs.Tryz.prog 67 = some false := by kernel_rfl
@[simp] theorem tyStr67 : eStr Go.Proofs.Tryz.prog 67 = false := by kernel_rfl
@[simp] theorem tyZero67 : eZero Go.Proofs.Tryz.prog 67 = some [.nilFunc] := by kernel_rfl
@[simp] theorem tySz68 : eSz Go.Proofs.Tryz.prog 68 = some 1 := by kernel_rfl
@[simp] theorem tyAgg68 : eAgg Go.Proofs.Tryz.prog 68 = some false := by kernel_rfl
@[simp] theorem tyStr68 : eStr Go.Proofs.Tryz.prog 68 = false := by kernel_rfl
@[simp] theorem tyZero68 : eZero Go.Proofs.Tryz.prog 68 = some [.nilFunc] := by kernel_rfl
@[simp] theorem tySz69 : eSz Go.Proofs.Tryz.prog 69 = some 1 := by kernel_rfl
@[simp] theorem tyAgg69 : eAgg Go.Proofs.Tryz.prog 69 = some false := by kernel_rfl
@[simp] theorem tyStr69 : eStr Go.Proofs.Tryz.prog 69 = false := by kernel_rfl
@[simp] theorem tySz70 : eSz Go.Proofs.Tryz.prog 70 = some 1 := by kernel_rfl
@[simp] theorem tyAgg70 : eAgg Go.Proofs.Tryz.prog 70 = some false := by kernel_rfl
@[simp] theorem tyStr70 : eStr Go.Proofs.Tryz.prog 70 = false := by kernel_rfl
@[simp] theorem tyZero70 : eZero Go.Proofs.Tryz.prog 70 = some [.nilFunc] := by kernel_rfl
@[simp] theorem tySz71 : eSz Go.Proofs.Tryz.prog 71 = some 1 := by kernel_rfl
@[simp] theorem tyAgg71 : eAgg Go.Proofs.Tryz.prog 71 = some false := by kernel_rfl
@[simp] theorem tyStr71 : eStr Go.Proofs.Tryz.prog 71 = false := by kernel_rfl
@[simp] theorem tyZero71 : eZero Go.Proofs.Tryz.prog 71 = some [.nilFunc] := by kernel_rfl
@[simp] theorem tySz72 : eSz Go.Proofs.Tryz.prog 72 = some 1 := by kernel_rfl
@[simp] theorem tyAgg72 : eAgg Go.Proofs.Tryz.prog 72 = some false := by kernel_rfl
@[simp] theorem tyStr72 : eStr Go.Proofs.Tryz.prog 72 = false := by kernel_rfl
@[simp] theorem tyZero72 : eZero Go.Proofs.Tryz.prog 72 = some [.nilFunc] := by kernel_rfl
@[simp] theorem tySz73 : eSz Go.Proofs.Tryz.prog 73 = some 1 := by kernel_rfl
@[simp] theorem tyAgg73 : eAgg Go.Proofs.Tryz.prog 73 = some false := by kernel_rfl
@[simp] theorem tyStr73 : eStr Go.Proofs.Tryz.prog 73 = false := by kernel_rfl
@[simp] theorem tyZero73 : eZero Go.Proofs.Tryz.prog 73 = some [.nilFunc] := by kernel_rfl
@[simp] theorem tySz74 : eSz Go.Proofs.Tryz.prog 74 = some 1 := by kernel_rfl
@[simp] theorem tyAgg74 : eAgg Go.Proofs.Tryz.prog 74 = some false := by kernel_rfl
@[simp] theorem tyStr74 : eStr Go.Proofs.Tryz.prog 74 = false := by kernel_rfl
@[simp] theorem tyZero74 : eZero Go.Proofs.Tryz.prog 74 = some [.nilFunc] := by kernel_rfl
@[simp] theorem tySz75 : eSz Go.Proofs.Tryz.prog 75 = some 1 := by kernel_rfl
@[simp] theorem tyAgg75 : eAgg Go.Proofs.Tryz.prog 75 = some false := by kernel_rfl
@[simp] theorem tyStr75 : eStr Go.Proofs.Tryz.prog 75 = false := by kernel_rfl
@[simp] theorem tyZero75 : eZero Go.Proofs.Tryz.prog 75 = some [.nilFunc] := by kernel_rfl
@[simp] theorem tySz76 : eSz Go.Proofs.Tryz.prog 76 = some 1 := by kernel_rfl
@[simp] theorem tyAgg76 : eAgg Go.Proofs.Tryz.prog 76 = some false := by kernel_rfl
@[simp] theorem tyStr76 : eStr Go.Proofs.Tryz.prog 76 = false := by kernel_rfl
@[simp] theorem tyZero76 : eZero Go.Proofs.Tryz.prog 76 = some [.nilFunc] := by kernel_rfl
@[simp] theorem tySz77 : eSz Go.Proofs.Tryz.prog 77 = some 1 := by kernel_rfl
@[simp] theorem tyAgg77 : eAgg Go.Proofs.Tryz.prog 77 = some false := by kernel_rfl
@[simp] theorem tyStr77 : eStr Go.Proofs.Tryz.prog 77 = false := by kernel_rfl
@[simp] theorem tySz78 : eSz Go.Proofs.Tryz.prog 78 = some 1 := by kernel_rfl
@[simp] theorem tyAgg78 : eAgg Go.Proofs.Tryz.prog 78 = some false := by kernel_rfl
@[simp] theorem tyStr78 : eStr Go.Proofs.Tryz.prog 78 = false := by kernel_rfl
@[simp] theorem tyZero78 : eZero Go.Proofs.Tryz.prog 78 = some [.nilFunc] := by kernel_rfl
@[simp] theorem tySz79 : eSz Go.Proofs.Tryz.prog 79 = some 1 := by kernel_rfl
@[simp] theorem tyAgg79 : eAgg Go.Proofs.Tryz.prog 79 = some false := by kernel_rfl
@[simp] theorem tyStr79 : eStr Go.Proofs.Tryz.prog 79 = false := by kernel_rfl
@[simp] theorem tyZero79 : eZero Go.Proofs.Tryz.prog 79 = some [.nilFunc] := by kernel_rfl
@[simp] theorem tySz80 : eSz Go.Proofs.Tryz.prog 80 = some 2 := by kernel_rfl
@[simp] theorem tyAgg80 : eAgg Go.Proofs.Tryz.prog 80 = some true := by kernel_rfl
@[simp] theorem tyStr80 : eStr Go.Proofs.Tryz.prog 80 = false := by kernel_rfl
@[simp] theorem tyFld80_0 : eFld Go.Proofs.Tryz.prog 80 0 = some (3, 0) := by kernel_rfl
@[simp] theorem tyFld80_1 : eFld Go.Proofs.Tryz.prog 80 1 = some (4, 1) := by kernel_rfl
@[simp] theorem tyPl80 : ePl Go.Proofs.Tryz.prog 80 = some [(0, 1), (1, 1)] := by kernel_rfl
@[simp] theorem tyZero80 : eZero Go.Proofs.Tryz.prog 80 = some [.int .i64 0, .bool false] := by kernel_rfl
@[simp] theorem tySz81 : eSz Go.Proofs.Tryz.prog 81 = some 2 := by kernel_rfl
@[simp] theorem tyAgg81 : eAgg Go.Proofs.Tryz.prog 81 = some true := by kernel_rfl
@[simp] theorem tyStr81 : eStr Go.Proofs.Tryz.prog 81 = false := by kernel_rfl
@[simp] theorem tyFld81_0 : eFld Go.Proofs.Tryz.prog 81 0 = some (3, 0) := by kernel_rfl
@[simp] theorem tyFld81_1 : eFld Go.Proofs.Tryz.prog 81 1 = some (4, 1) := by kernel_rfl
@[simp] theorem tyPl81 : ePl Go.Proofs.Tryz.prog 81 = some [(0, 1), (1, 1)] := by kernel_rfl
@[simp] theorem tyZero81 : eZero Go.Proofs.Tryz.prog 81 = some [.int .i64 0, .bool false] := by kernel_rfl
@[simp] theorem tySz82 : eSz Go.Proofs.Tryz.prog 82 = some 1 := by kernel_rfl
@[simp] theorem tyAgg82 : eAgg Go.Proofs.Tryz.prog 82 = some false := by kernel_rfl
@[simp] theorem tyElem82 : eElem Go.Proofs.Tryz.prog 82 = some (81, 2) := by kernel_rfl
@[simp] theorem tyBytes81 : eBytes Go.Proofs.Tryz.prog 81 = some 16 := by kernel_rfl
@[simp] theorem tyStr82 : eStr Go.Proofs.Tryz.prog 82 = false := by kernel_rfl
@[simp] theorem tyZero82 : eZero Go.Proofs.Tryz.prog 82 = some [.slice none 0 0] := by kernel_rfl
@[simp] theorem tySz83 : eSz Go.Proofs.Tryz.prog 83 = some 1 := by kernel_rfl
@[simp] theorem tyAgg83 : eAgg Go.Proofs.Tryz.prog 83 = some false := by kernel_rfl
@[simp] theorem tyStr83 : eStr Go.Proofs.Tryz.prog 83 = false := by kernel_rfl
@[simp] theorem tyZero83 : eZero Go.Proofs.Tryz.prog 83 = some [.nilFunc] := by kernel_rfl
@[simp] theorem tySz84 : eSz Go.Proofs.Tryz.prog 84 = some 1 := by kernel_rfl
@[simp] theorem tyAgg84 : eAgg Go.Proofs.Tryz.prog 84 = some false := by kernel_rfl
@[simp] theorem tyStr84 : eStr Go.Proofs.Tryz.prog 84 = false := by kernel_rfl
@[simp] theorem tyZero84 : eZero Go.Proofs.Tryz.prog 84 = some [.nilFunc] := by kernel_rfl
@[simp] theorem tySz85 : eSz Go.Proofs.Tryz.prog 85 = some 1 := by kernel_rfl
@[simp] theorem tyAgg85 : eAgg Go.Proofs.Tryz.prog 85 = some false := by kernel_rfl
@[simp] theorem tyStr85 : eStr Go.Proofs.Tryz.prog 85 = false := by kernel_rfl
@[simp] theorem tyZero85 : eZero Go.Proofs.Tryz.prog 85 = some [.nilFunc] := by kernel_rfl
@[simp] theorem tySz86 : eSz Go.Proofs.Tryz.prog 86 = some 1 := by kernel_rfl
@[simp] theorem tyAgg86 : eAgg Go.Proofs.Tryz.prog 86 = some false := by kernel_rfl
@[simp] theorem tyStr86 : eStr Go.Proofs.Tryz.prog 86 = false := by kernel_rfl
@[simp] theorem tyZero86 : eZero Go.Proofs.Tryz.prog 86 = some [.nilFunc] := by kernel_rfl
@[simp] theorem tySz87 : eSz Go.Proofs.Tryz.prog 87 = some 1 := by kernel_rfl
@[simp] theorem tyAgg87 : eAgg Go.Proofs.Tryz.prog 87 = some false := by kernel_rfl
@[simp] theorem tyStr87 : eStr Go.Proofs.Tryz.prog 87 = false := by kernel_rfl
@[simp] theorem tyZero87 : eZero Go.Proofs.Tryz.prog 87 = some [.nilFunc] := by kernel_rfl
@[simp] theorem tySz88 : eSz Go.Proofs.Tryz.prog 88 = some 1 := by kernel_rfl
@[simp] theorem tyAgg88 : eAgg Go.Proofs.Tryz.prog 88 = some false := by kernel_rfl
@[simp] theorem tyStr88 : eStr Go.Proofs.Tryz.prog 88 = false := by kernel_rfl
@[simp] theorem tyZero88 : eZero Go.Proofs.Tryz.prog 88 = some [.nilFunc] := by kernel_rfl
@[simp] theorem tySz89 : eSz Go.Proofs.Tryz.prog 89 = some 1 := by kernel_rfl
@[simp] theorem tyAgg89 : eAgg Go.Proofs.Tryz.prog 89 = some false := by kernel_rfl
@[simp] theorem tyStr89 : eStr Go.Proofs.Tryz.prog 89 = false := by kernel_rfl
@[simp] theorem tyZero89 : eZero Go.Proofs.Tryz.prog 89 = some [.nilFunc] := by kernel_rfl
@[simp] theorem tySz90 : eSz Go.Proofs.Tryz.prog 90 = some 1 := by kernel_rfl
@[simp] theorem tyAgg90 : eAgg Go.Proofs.Tryz.prog 90 = some false := by kernel_rfl
@[simp] theorem tyStr90 : eStr Go.Proofs.Tryz.prog 90 = false := by kernel_rfl
@[simp] theorem tyZero90 : eZero Go.Proofs.Tryz.prog 90 = some [.nilFunc] := by kernel_rfl
@[simp] theorem tySz91 : eSz Go.Proofs.Tryz.prog 91 = some 4 := by kernel_rfl
@[simp] theorem tyAgg91 : eAgg Go.Proofs.Tryz.prog 91 = some true := by kernel_rfl
@[simp] theorem tyStr91 : eStr Go.Proofs.Tryz.prog 91 = false := by kernel_rfl
@[simp] theorem tyFld91_0 : eFld Go.Proofs.Tryz.prog 91 0 = some (9, 0) := by kernel_rfl
@[simp] theorem tyFld91_1 : eFld Go.Proofs.Tryz.prog 91 1 = some (3, 1) := by kernel_rfl
@[simp] theorem tyFld91_2 : eFld Go.Proofs.Tryz.prog 91 2 = some (4, 2) := by kernel_rfl
@[simp] theorem tyFld91_3 : eFld Go.Proofs.Tryz.prog 91 3 = some (48, 3) := by kernel_rfl
@[simp] theorem tyPl91 : ePl Go.Proofs.Tryz.prog 91 = some [(0, 1), (1, 1), (2, 1), (3, 1)] := by kernel_rfl
@[simp] theorem tyZero91 : eZero Go.Proofs.Tryz.prog 91 = some [.string .empty, .int .i64 0, .bool false, .slice none 0 0] := by kernel_rfl
@[simp] theorem tySz92 : eSz Go.Proofs.Tryz.prog 92 = some 4 := by kernel_rfl
@[simp] theorem tyAgg92 : eAgg Go.Proofs.Tryz.prog 92 = some true := by kernel_rfl
@[simp] theorem tyStr92 : eStr Go.Proofs.Tryz.prog 92 = false := by kernel_rfl
@[simp] theorem tyFld92_0 : eFld Go.Proofs.Tryz.prog 92 0 = some (9, 0) := by kernel_rfl
@[simp] theorem tyFld92_1 : eFld Go.Proofs.Tryz.prog 92 1 = some (3, 1) := by kernel_rfl
@[simp] theorem tyFld92_2 : eFld Go.Proofs.Tryz.prog 92 2 = some (4, 2) := by kernel_rfl
@[simp] theorem tyFld92_3 : eFld Go.Proofs.Tryz.prog 92 3 = some (48, 3) := by kernel_rfl
@[simp] theorem tyPl92 : ePl Go.Proofs.Tryz.prog 92 = some [(0, 1), (1, 1), (2, 1), (3, 1)] := by kernel_rfl
@[simp] theorem tyZero92 : eZero Go.Proofs.Tryz.prog 92 = some [.string .empty, .int .i64 0, .bool false, .slice none 0 0] := by kernel_rfl
@[simp] theorem tySz93 : eSz Go.Proofs.Tryz.prog 93 = some 8 := by kernel_rfl
@[simp] theorem tyAgg93 : eAgg Go.Proofs.Tryz.prog 93 = some true := by kernel_rfl
@[simp] theorem tyStr93 : eStr Go.Proofs.Tryz.prog 93 = false := by kernel_rfl
@[simp] theorem tyFld93_0 : eFld Go.Proofs.Tryz.prog 93 0 = some (9, 0) := by kernel_rfl
@[simp] theorem tyFld93_1 : eFld Go.Proofs.Tryz.prog 93 1 = some (9, 1) := by kernel_rfl
@[simp] theorem tyFld93_2 : eFld Go.Proofs.Tryz.prog 93 2 = some (9, 2) := by kernel_rfl
@[simp] theorem tyFld93_3 : eFld Go.Proofs.Tryz.prog 93 3 = some (9, 3) := by kernel_rfl
@[simp] theorem tyFld93_4 : eFld Go.Proofs.Tryz.prog 93 4 = some (9, 4) := by kernel_rfl
@[simp] theorem tyFld93_5 : eFld Go.Proofs.Tryz.prog 93 5 = some (4, 5) := by kernel_rfl
@[simp] theorem tyFld93_6 : eFld Go.Proofs.Tryz.prog 93 6 = some (9, 6) := by kernel_rfl
@[simp] theorem tyFld93_7 : eFld Go.Proofs.Tryz.prog 93 7 = some (4, 7) := by kernel_rfl
@[simp] theorem tyPl93 : ePl Go.Proofs.Tryz.prog 93 = some [(0, 1), (1, 1), (2, 1), (3, 1), (4, 1), (5, 1), (6, 1), (7, 1)] := by kernel_rfl
@[simp] theorem tyZero93 : eZero Go.Proofs.Tryz.prog 93 = some [.string .empty, .string .empty, .string .empty, .string .empty, .string .empty, .bool false, .string .empty, .bool false] := by kernel_rfl
@[simp] theorem tySz94 : eSz Go.Proofs.Tryz.prog 94 = some 8 := by kernel_rfl
@[simp] theorem tyAgg94 : eAgg Go.Proofs.Tryz.prog 94 = some true := by kernel_rfl
@[simp] theorem tyStr94 : eStr Go.Proofs.Tryz.prog 94 = false := by kernel_rfl
@[simp] theorem tyFld94_0 : eFld Go.Proofs.Tryz.prog 94 0 = some (9, 0) := by kernel_rfl
@[simp] theorem tyFld94_1 : eFld Go.Proofs.Tryz.prog 94 1 = some (9, 1) := by kernel_rfl
@[simp] theorem tyFld94_2 : eFld Go.Proofs.Tryz.prog 94 2 = some (9, 2) := by kernel_rfl
@[simp] theorem tyFld94_3 : eFld Go.Proofs.Tryz.prog 94 3 = some (9, 3) := by kernel_rfl
@[simp] theorem tyFld94_4 : eFld Go.Proofs.Tryz.prog 94 4 = some (9, 4) := by kernel_rfl
@[simp] theorem tyFld94_5 : eFld Go.Proofs.Tryz.prog 94 5 = some (4, 5) := by kernel_rfl
@[simp] theorem tyFld94_6 : eFld Go.Proofs.Tryz.prog 94 6 = some (9, 6) := by kernel_rfl
@[simp] theorem tyFld94_7 : eFld Go.Proofs.Tryz.prog 94 7 = some (4, 7) := by kernel_rfl
@[simp] theorem tyPl94 : ePl Go.Proofs.Tryz.prog 94 = some [(0, 1), (1, 1), (2, 1), (3, 1), (4, 1), (5, 1), (6, 1), (7, 1)] := by kernel_rfl
@[simp] theorem tyZero94 : eZero Go.Proofs.Tryz.prog 94 = some [.string .empty, .string .empty, .string .empty, .string .empty, .string .empty, .bool false, .string .empty, .bool false] := by kernel_rfl
@[simp] theorem tySz95 : eSz Go.Proofs.Tryz.prog 95 = some 1 := by kernel_rfl
@[simp] theorem tyAgg95 : eAgg Go.Proofs.Tryz.prog 95 = some false := by kernel_rfl
@[simp] theorem tyStr95 : eStr Go.Proofs.Tryz.prog 95 = false := by kernel_rfl
@[simp] theorem tySz96 : eSz Go.Proofs.Tryz.prog 96 = some 1 := by kernel_rfl
@[simp] theorem tyAgg96 : eAgg Go.Proofs.Tryz.prog 96 = some false := by kernel_rfl
@[simp] theorem tyStr96 : eStr Go.Proofs.Tryz.prog 96 = false := by kernel_rfl
@[simp] theorem tyZero96 : eZero Go.Proofs.Tryz.prog 96 = some [.nilFunc] := by kernel_rfl
@[simp] theorem tySz97 : eSz Go.Proofs.Tryz.prog 97 = some 1 := by kernel_rfl
@[simp] theorem tyAgg97 : eAgg Go.Proofs.Tryz.prog 97 = some false := by kernel_rfl
@[simp] theorem tyStr97 : eStr Go.Proofs.Tryz.prog 97 = false := by kernel_rfl
@[simp] theorem tyZero97 : eZero Go.Proofs.Tryz.prog 97 = some [.nilFunc] := by kernel_rfl
@[simp] theorem tySz98 : eSz Go.Proofs.Tryz.prog 98 = some 1 := by kernel_rfl
@[simp] theorem tyAgg98 : eAgg Go.Proofs.Tryz.prog 98 = some false := by kernel_rfl
@[simp] theorem tyStr98 : eStr Go.Proofs.Tryz.prog 98 = false := by kernel_rfl
@[simp] theorem tySz99 : eSz Go.Proofs.Tryz.prog 99 = some 1 := by kernel_rfl
@[simp] theorem tyAgg99 : eAgg Go.Proofs.Tryz.prog 99 = some false := by kernel_rfl
@[simp] theorem tyStr99 : eStr Go.Proofs.Tryz.prog 99 = false := by kernel_rfl
@[simp] theorem tyZero99 : eZero Go.Proofs.Tryz.prog 99 = some [.nilFunc] := by kernel_rfl
@[simp] theorem tySz100 : eSz Go.Proofs.Tryz.prog 100 = some 1 := by kernel_rfl
@[simp] theorem tyAgg100 : eAgg Go.Proofs.Tryz.prog 100 = some false := by kernel_rfl
@[simp] theorem tyStr100 : eStr Go.Proofs.Tryz.prog 100 = false := by kernel_rfl
@[simp] theorem tyZero100 : eZero Go.Proofs.Tryz.prog 100 = some [.nilFunc] := by kernel_rfl
@[simp] theorem tySz101 : eSz Go.Proofs.Tryz.prog 101 = some 1 := by kernel_rfl
@[simp] theorem tyAgg101 : eAgg Go.Proofs.Tryz.prog 101 = some false := by kernel_rfl
@[simp] theorem tyElem101 : eElem Go.Proofs.Tryz.prog 101 = some (9, 1) := by kernel_rfl
@[simp] theorem tyBytes9 : eBytes Go.Proofs.Tryz.prog 9 = some 16 := by kernel_rfl
@[simp] theorem tyStr101 : eStr Go.Proofs.Tryz.prog 101 = false := by kernel_rfl
@[simp] theorem tyZero101 : eZero Go.Proofs.Tryz.prog 101 = some [.slice none 0 0] := by kernel_rfl
@[simp] theorem tySz102 : eSz Go.Proofs.Tryz.prog 102 = some 1 := by kernel_rfl
@[simp] theorem tyAgg102 : eAgg Go.Proofs.Tryz.prog 102 = some false := by kernel_rfl
@[simp] theorem tyStr102 : eStr Go.Proofs.Tryz.prog 102 = false := by kernel_rfl
@[simp] theorem tyZero102 : eZero Go.Proofs.Tryz.prog 102 = some [.nilFunc] := by kernel_rfl
@[simp] theorem tySz103 : eSz Go.Proofs.Tryz.prog 103 = some 1 := by kernel_rfl
@[simp] theorem tyAgg103 : eAgg Go.Proofs.Tryz.prog 103 = some false := by kernel_rfl
@[simp] theorem tyStr103 : eStr Go.Proofs.Tryz.prog 103 = false := by kernel_rfl
@[simp] theorem tyZero103 : eZero Go.Proofs.Tryz.prog 103 = some [.nilFunc] := by kernel_rfl
@[simp] theorem tySz104 : eSz Go.Proofs.Tryz.prog 104 = some 1 := by kernel_rfl
@[simp] theorem tyAgg104 : eAgg Go.Proofs.Tryz.prog 104 = some false := by kernel_rfl
@[simp] theorem tyStr104 : eStr Go.Proofs.Tryz.prog 104 = false := by kernel_rfl
@[simp] theorem tyZero104 : eZero Go.Proofs.Tryz.prog 104 = some [.nilFunc] := by kernel_rfl
@[simp] theorem tySz105 : eSz Go.Proofs.Tryz.prog 105 = some 2 := by kernel_rfl
@[simp] theorem tyAgg105 : eAgg Go.Proofs.Tryz.prog 105 = some true := by kernel_rfl
@[simp] theorem tyStr105 : eStr Go.Proofs.Tryz.prog 105 = false := by kernel_rfl
@[simp] theorem tyFld105_0 : eFld Go.Proofs.Tryz.prog 105 0 = some (3, 0) := by kernel_rfl
@[simp] theorem tyFld105_1 : eFld Go.Proofs.Tryz.prog 105 1 = some (3, 1) := by kernel_rfl
@[simp] theorem tyPl105 : ePl Go.Proofs.Tryz.prog 105 = some [(0, 1), (1, 1)] := by kernel_rfl
@[simp] theorem tyZero105 : eZero Go.Proofs.Tryz.prog 105 = some [.int .i64 0, .int .i64 0] := by kernel_rfl
@[simp] theorem tySz106 : eSz Go.Proofs.Tryz.prog 106 = some 2 := by kernel_rfl
@[simp] theorem tyAgg106 : eAgg Go.Proofs.Tryz.prog 106 = some true := by kernel_rfl
@[simp] theorem tyStr106 : eStr Go.Proofs.Tryz.prog 106 = false := by kernel_rfl
@[simp] theorem tyFld106_0 : eFld Go.Proofs.Tryz.prog 106 0 = some (3, 0) := by kernel_rfl
@[simp] theorem tyFld106_1 : eFld Go.Proofs.Tryz.prog 106 1 = some (3, 1) := by kernel_rfl
@[simp] theorem tyPl106 : ePl Go.Proofs.Tryz.prog 106 = some [(0, 1), (1, 1)] := by kernel_rfl
@[simp] theorem tyZero106 : eZero Go.Proofs.Tryz.prog 106 = some [.int .i64 0, .int .i64 0] := by kernel_rfl
@[simp] theorem tySz107 : eSz Go.Proofs.Tryz.prog 107 = some 1 := by kernel_rfl
@[simp] theorem tyAgg107 : eAgg Go.Proofs.Tryz.prog 107 = some false := by kernel_rfl
@[simp] theorem tyStr107 : eStr Go.Proofs.Tryz.prog 107 = false := by kernel_rfl
@[simp] theorem tyZero107 : eZero Go.Proofs.Tryz.prog 107 = some [.nilFunc] := by kernel_rfl
@[simp] theorem tySz108 : eSz Go.Proofs.Tryz.prog 108 = some 1 := by kernel_rfl
@[simp] theorem tyAgg108 : eAgg Go.Proofs.Tryz.prog 108 = some false := by kernel_rfl
@[simp] theorem tyStr108 : eStr Go.Proofs.Tryz.prog 108 = false := by kernel_rfl
@[simp] theorem tyZero108 : eZero Go.Proofs.Tryz.prog 108 = some [.nilFunc] := by kernel_rfl
@[simp] theorem tySz109 : eSz Go.Proofs.Tryz.prog 109 = some 1 := by kernel_rfl
@[simp] theorem tyAgg109 : eAgg Go.Proofs.Tryz.prog 109 = some false := by kernel_rfl
@[simp] theorem tyStr109 : eStr Go.Proofs.Tryz.prog 109 = false := by kernel_rfl
@[simp] theorem tyZero109 : eZero Go.Proofs.Tryz.prog 109 = some [.nilFunc] := by kernel_rfl
@[simp] theorem tySz110 : eSz Go.Proofs.Tryz.prog 110 = some 1 := by kernel_rfl
@[simp] theorem tyAgg110 : eAgg Go.Proofs.Tryz.prog 110 = some false := by kernel_rfl
@[simp] theorem tyStr110 : eStr Go.Proofs.Tryz.prog 110 = false := by kernel_rfl
@[simp] theorem tyZero110 : eZero Go.Proofs.Tryz.prog 110 = some [.nilFunc] := by kernel_rfl
@[simp] theorem tySz111 : eSz Go.Proofs.Tryz.prog 111 = some 1 := by kernel_rfl
@[simp] theorem tyAgg111 : eAgg Go.Proofs.Tryz.prog 111 = some false := by kernel_rfl
@[simp] theorem tyStr111 : eStr Go.Proofs.Tryz.prog 111 = false := by kernel_rfl
@[simp] theorem tyZero111 : eZero Go.Proofs.Tryz.prog 111 = some [.map none] := by kernel_rfl
@[simp] theorem tySz112 : eSz Go.Proofs.Tryz.prog 112 = some 2 := by kernel_rfl
@[simp] theorem tyAgg112 : eAgg Go.Proofs.Tryz.prog 112 = some true := by kernel_rfl
@[simp] theorem tyStr112 : eStr Go.Proofs.Tryz.prog 112 = false := by kernel_rfl
@[simp] theorem tyFld112_0 : eFld Go.Proofs.Tryz.prog 112 0 = some (9, 0) := by kernel_rfl
@[simp] theorem tyFld112_1 : eFld Go.Proofs.Tryz.prog 112 1 = some (3, 1) := by kernel_rfl
@[simp] theorem tyPl112 : ePl Go.Proofs.Tryz.prog 112 = some [(0, 1), (1, 1)] := by kernel_rfl
@[simp] theorem tyZero112 : eZero Go.Proofs.Tryz.prog 112 = some [.string .empty, .int .i64 0] := by kernel_rfl
@[simp] theorem tySz113 : eSz Go.Proofs.Tryz.prog 113 = some 2 := by kernel_rfl
@[simp] theorem tyAgg113 : eAgg Go.Proofs.Tryz.prog 113 = some true := by kernel_rfl
@[simp] theorem tyStr113 : eStr Go.Proofs.Tryz.prog 113 = false := by kernel_rfl
@[simp] theorem tyFld113_0 : eFld Go.Proofs.Tryz.prog 113 0 = some (9, 0) := by kernel_rfl
@[simp] theorem tyFld113_1 : eFld Go.Proofs.Tryz.prog 113 1 = some (3, 1) := by kernel_rfl
@[simp] theorem tyPl113 : ePl Go.Proofs.Tryz.prog 113 = some [(0, 1), (1, 1)] := by kernel_rfl
@[simp] theorem tyZero113 : eZero Go.Proofs.Tryz.prog 113 = some [.string .empty, .int .i64 0] := by kernel_rfl
@[simp] theorem tySz114 : eSz Go.Proofs.Tryz.prog 114 = some 3 := by kernel_rfl
@[simp] theorem tyAgg114 : eAgg Go.Proofs.Tryz.prog 114 = some true := by kernel_rfl
@[simp] theorem tyStr114 : eStr Go.Proofs.Tryz.prog 114 = false := by kernel_rfl
@[simp] theorem tyFld114_0 : eFld Go.Proofs.Tryz.prog 114 0 = some (9, 0) := by kernel_rfl
@[simp] theorem tyFld114_1 : eFld Go.Proofs.Tryz.prog 114 1 = some (3, 1) := by kernel_rfl
@[simp] theorem tyFld114_2 : eFld Go.Proofs.Tryz.prog 114 2 = some (3, 2) := by kernel_rfl
@[simp] theorem tyPl114 : ePl Go.Proofs.Tryz.prog 114 = some [(0, 1), (1, 1), (2, 1)] := by kernel_rfl
@[simp] theorem tyZero114 : eZero Go.Proofs.Tryz.prog 114 = some [.string .empty, .int .i64 0, .int .i64 0] := by kernel_rfl
@[simp] theorem tySz115 : eSz Go.Proofs.Tryz.prog 115 = some 3 := by kernel_rfl
@[simp] theorem tyAgg115 : eAgg Go.Proofs.Tryz.prog 115 = some true := by kernel_rfl
@[simp] theorem tyStr115 : eStr Go.Proofs.Tryz.prog 115 = false := by kernel_rfl
@[simp] theorem tyFld115_0 : eFld Go.Proofs.Tryz.prog 115 0 = some (9, 0) := by kernel_rfl
@[simp] theorem tyFld115_1 : eFld Go.Proofs.Tryz.prog 115 1 = some (3, 1) := by kernel_rfl
@[simp] theorem tyFld115_2 : eFld Go.Proofs.Tryz.prog 115 2 = some (3, 2) := by kernel_rfl
@[simp] theorem tyPl115 : ePl Go.Proofs.Tryz.prog 115 = some [(0, 1), (1, 1), (2, 1)] := by kernel_rfl
@[simp] theorem tyZero115 : eZero Go.Proofs.Tryz.prog 115 = some [.string .empty, .int .i64 0, .int .i64 0] := by kernel_rfl
@[simp] theorem tySz116 : eSz Go.Proofs.Tryz.prog 116 = some 1 := by kernel_rfl
@[simp] theorem tyAgg116 : eAgg Go.Proofs.Tryz.prog 116 = some false := by kernel_rfl
@[simp] theorem tyStr116 : eStr Go.Proofs.Tryz.prog 116 = false := by kernel_rfl
@[simp] theorem tyZero116 : eZero Go.Proofs.Tryz.prog 116 = some [.nilFunc] := by kernel_rfl
@[simp] theorem tySz117 : eSz Go.Proofs.Tryz.prog 117 = some 1 := by kernel_rfl
@[simp] theorem tyAgg117 : eAgg Go.Proofs.Tryz.prog 117 = some false := by kernel_rfl
@[simp] theorem tyStr117 : eStr Go.Proofs.Tryz.prog 117 = false := by kernel_rfl
@[simp] theorem tyZero117 : eZero Go.Proofs.Tryz.prog 117 = some [.nilFunc] := by kernel_rfl
@[simp] theorem tySz118 : eSz Go.Proofs.Tryz.prog 118 = some 1 := by kernel_rfl
@[simp] theorem tyAgg118 : eAgg Go.Proofs.Tryz.prog 118 = some false := by kernel_rfl
@[simp] theorem tyStr118 : eStr Go.Proofs.Tryz.prog 118 = false := by kernel_rfl
@[simp] theorem tyPtr118 : ePtr Go.Proofs.Tryz.prog 118 = true := by kernel_rfl
@[simp] theorem tyZero118 : eZero Go.Proofs.Tryz.prog 118 = some [.pointer none] := by kernel_rfl
@[simp] theorem tySz119 : eSz Go.Proofs.Tryz.prog 119 = some 1 := by kernel_rfl
@[simp] theorem tyAgg119 : eAgg Go.Proofs.Tryz.prog 119 = some false := by kernel_rfl
@[simp] theorem tyStr119 : eStr Go.Proofs.Tryz.prog 119 = false := by kernel_rfl
@[simp] theorem tySz120 : eSz Go.Proofs.Tryz.prog 120 = some 1 := by kernel_rfl
@[simp] theorem tyAgg120 : eAgg Go.Proofs.Tryz.prog 120 = some false := by kernel_rfl
@[simp] theorem tyStr120 : eStr Go.Proofs.Tryz.prog 120 = false := by kernel_rfl
@[simp] theorem tyZero120 : eZero Go.Proofs.Tryz.prog 120 = some [.nilFunc] := by kernel_rfl
@[simp] theorem tySz121 : eSz Go.Proofs.Tryz.prog 121 = some 1 := by kernel_rfl
@[simp] theorem tyAgg121 : eAgg Go.Proofs.Tryz.prog 121 = some false := by kernel_rfl
@[simp] theorem tyStr121 : eStr Go.Proofs.Tryz.prog 121 = false := by kernel_rfl
@[simp] theorem tyPtr121 : ePtr Go.Proofs.Tryz.prog 121 = true := by kernel_rfl
@[simp] theorem tyZero121 : eZero Go.Proofs.Tryz.prog 121 = some [.pointer none] := by kernel_rfl
@[simp] theorem tySz122 : eSz Go.Proofs.Tryz.prog 122 = some 1 := by kernel_rfl
@[simp] theorem tyAgg122 : eAgg Go.Proofs.Tryz.prog 122 = some false := by kernel_rfl
@[simp] theorem tyElem122 : eElem Go.Proofs.Tryz.prog 122 = some (5, 1) := by kernel_rfl
@[simp] theorem tyBytes5 : eBytes Go.Proofs.Tryz.prog 5 = some 1 := by kernel_rfl
@[simp] theorem tyStr122 : eStr Go.Proofs.Tryz.prog 122 = false := by kernel_rfl
@[simp] theorem tyZero122 : eZero Go.Proofs.Tryz.prog 122 = some [.slice none 0 0] := by kernel_rfl
@[simp] theorem tySz123 : eSz Go.Proofs.Tryz.prog 123 = some 2 := by kernel_rfl
@[simp] theorem tyAgg123 : eAgg Go.Proofs.Tryz.prog 123 = some true := by kernel_rfl
@[simp] theorem tyStr123 : eStr Go.Proofs.Tryz.prog 123 = false := by kernel_rfl
@[simp] theorem tyFld123_0 : eFld Go.Proofs.Tryz.prog 123 0 = some (121, 0) := by kernel_rfl
@[simp] theorem tyFld123_1 : eFld Go.Proofs.Tryz.prog 123 1 = some (122, 1) := by kernel_rfl
@[simp] theorem tyPl123 : ePl Go.Proofs.Tryz.prog 123 = some [(0, 1), (1, 1)] := by kernel_rfl
@[simp] theorem tyZero123 : eZero Go.Proofs.Tryz.prog 123 = some [.pointer none, .slice none 0 0] := by kernel_rfl
@[simp] theorem tySz124 : eSz Go.Proofs.Tryz.prog 124 = some 2 := by kernel_rfl
@[simp] theorem tyAgg124 : eAgg Go.Proofs.Tryz.prog 124 = some true := by kernel_rfl
@[simp] theorem tyStr124 : eStr Go.Proofs.Tryz.prog 124 = false := by kernel_rfl
@[simp] theorem tyFld124_0 : eFld Go.Proofs.Tryz.prog 124 0 = some (121, 0) := by kernel_rfl
@[simp] theorem tyFld124_1 : eFld Go.Proofs.Tryz.prog 124 1 = some (122, 1) := by kernel_rfl
@[simp] theorem tyPl124 : ePl Go.Proofs.Tryz.prog 124 = some [(0, 1), (1, 1)] := by kernel_rfl
@[simp] theorem tyZero124 : eZero Go.Proofs.Tryz.prog 124 = some [.pointer none, .slice none 0 0] := by kernel_rfl
@[simp] theorem tySz125 : eSz Go.Proofs.Tryz.prog 125 = some 1 := by kernel_rfl
@[simp] theorem tyAgg125 : eAgg Go.Proofs.Tryz.prog 125 = some false := by kernel_rfl
@[simp] theorem tyStr125 : eStr Go.Proofs.Tryz.prog 125 = false := by kernel_rfl
@[simp] theorem tyZero125 : eZero Go.Proofs.Tryz.prog 125 = some [.nilFunc] := by kernel_rfl
@[simp] theorem tySz126 : eSz Go.Proofs.Tryz.prog 126 = some 1 := by kernel_rfl
@[simp] theorem tyAgg126 : eAgg Go.Proofs.Tryz.prog 126 = some false := by kernel_rfl
@[simp] theorem tyStr126 : eStr Go.Proofs.Tryz.prog 126 = false := by kernel_rfl
@[simp] theorem tyZero126 : eZero Go.Proofs.Tryz.prog 126 = some [.nilIface] := by kernel_rfl
@[simp] theorem tySz127 : eSz Go.Proofs.Tryz.prog 127 = some 1 := by kernel_rfl
@[simp] theorem tyAgg127 : eAgg Go.Proofs.Tryz.prog 127 = some false := by kernel_rfl
@[simp] theorem tyStr127 : eStr Go.Proofs.Tryz.prog 127 = false := by kernel_rfl
@[simp] theorem tyZero127 : eZero Go.Proofs.Tryz.prog 127 = some [.nilIface] := by kernel_rfl
@[simp] theorem tySz128 : eSz Go.Proofs.Tryz.prog 128 = some 1 := by kernel_rfl
@[simp] theorem tyAgg128 : eAgg Go.Proofs.Tryz.prog 128 = some false := by kernel_rfl
@[simp] theorem tyStr128 : eStr Go.Proofs.Tryz.prog 128 = false := by kernel_rfl
@[simp] theorem tySz129 : eSz Go.Proofs.Tryz.prog 129 = some 1 := by kernel_rfl
@[simp] theorem tyAgg129 : eAgg Go.Proofs.Tryz.prog 129 = some false := by kernel_rfl
@[simp] theorem tyStr129 : eStr Go.Proofs.Tryz.prog 129 = false := by kernel_rfl
@[simp] theorem tyZero129 : eZero Go.Proofs.Tryz.prog 129 = some [.nilFunc] := by kernel_rfl
@[simp] theorem tySz130 : eSz Go.Proofs.Tryz.prog 130 = some 1 := by kernel_rfl
@[simp] theorem tyAgg130 : eAgg Go.Proofs.Tryz.prog 130 = some false := by kernel_rfl
@[simp] theorem tyStr130 : eStr Go.Proofs.Tryz.prog 130 = false := by kernel_rfl
@[simp] theorem tyZero130 : eZero Go.Proofs.Tryz.prog 130 = some [.nilFunc] := by kernel_rfl
@[simp] theorem tySz131 : eSz Go.Proofs.Tryz.prog 131 = some 1 := by kernel_rfl
@[simp] theorem tyAgg131 : eAgg Go.Proofs.Tryz.prog 131 = some false := by kernel_rfl
@[simp] theorem tyStr131 : eStr Go.Proofs.Tryz.prog 131 = false := by kernel_rfl
@[simp] theorem tyZero131 : eZero Go.Proofs.Tryz.prog 131 = some [.nilFunc] := by kernel_rfl
@[simp] theorem tySz132 : eSz Go.Proofs.Tryz.prog 132 = some 1 := by kernel_rfl
@[simp] theorem tyAgg132 : eAgg Go.Proofs.Tryz.prog 132 = some false := by kernel_rfl
@[simp] theorem tyStr132 : eStr Go.Proofs.Tryz.prog 132 = false := by kernel_rfl
@[simp] theorem tyZero132 : eZero Go.Proofs.Tryz.prog 132 = some [.nilFunc] := by kernel_rfl
@[simp] theorem tySz133 : eSz Go.Proofs.Tryz.prog 133 = some 1 := by kernel_rfl
@[simp] theorem tyAgg133 : eAgg Go.Proofs.Tryz.prog 133 = some false := by kernel_rfl
@[simp] theorem tyStr133 : eStr Go.Proofs.Tryz.prog 133 = false := by kernel_rfl
@[simp] theorem tyZero133 : eZero Go.Proofs.Tryz.prog 133 = some [.nilFunc] := by kernel_rfl
@[simp] theorem tySz134 : eSz Go.Proofs.Tryz.prog 134 = some 1 := by kernel_rfl
@[simp] theorem tyAgg134 : eAgg Go.Proofs.Tryz.prog 134 = some false := by kernel_rfl
@[simp] theorem tyStr134 : eStr Go.Proofs.Tryz.prog 134 = false := by kernel_rfl
@[simp] theorem tyZero134 : eZero Go.Proofs.Tryz.prog 134 = some [.nilFunc] := by kernel_rfl
@[simp] theorem tySz135 : eSz Go.Proofs.Tryz.prog 135 = some 1 := by kernel_rfl
@[simp] theorem tyAgg135 : eAgg Go.Proofs.Tryz.prog 135 = some false := by kernel_rfl
@[simp] theorem tyStr135 : eStr Go.Proofs.Tryz.prog 135 = false := by kernel_rfl
@[simp] theorem tyZero135 : eZero Go.Proofs.Tryz.prog 135 = some [.nilFunc] := by kernel_rfl
@[simp] theorem tySz136 : eSz Go.Proofs.Tryz.prog 136 = some 1 := by kernel_rfl
@[simp] theorem tyAgg136 : eAgg Go.Proofs.Tryz.prog 136 = some false := by kernel_rfl
@[simp] theorem tyStr136 : eStr Go.Proofs.Tryz.prog 136 = false := by kernel_rfl
@[simp] theorem tyZero136 : eZero Go.Proofs.Tryz.prog 136 = some [.nilFunc] := by kernel_rfl
@[simp] theorem tySz137 : eSz Go.Proofs.Tryz.prog 137 = some 1 := by kernel_rfl
@[simp] theorem tyAgg137 : eAgg Go.Proofs.Tryz.prog 137 = some false := by kernel_rfl
@[simp] theorem tyStr137 : eStr Go.Proofs.Tryz.prog 137 = false := by kernel_rfl
@[simp] theorem tyZero137 : eZero Go.Proofs.Tryz.prog 137 = some [.nilFunc] := by kernel_rfl
@[simp] theorem tySz138 : eSz Go.Proofs.Tryz.prog 138 = some 2 := by kernel_rfl
@[simp] theorem tyAgg138 : eAgg Go.Proofs.Tryz.prog 138 = some true := by kernel_rfl
@[simp] theorem tyStr138 : eStr Go.Proofs.Tryz.prog 138 = false := by kernel_rfl
@[simp] theorem tyFld138_0 : eFld Go.Proofs.Tryz.prog 138 0 = some (9, 0) := by kernel_rfl
@[simp] theorem tyFld138_1 : eFld Go.Proofs.Tryz.prog 138 1 = some (82, 1) := by kernel_rfl
@[simp] theorem tyPl138 : ePl Go.Proofs.Tryz.prog 138 = some [(0, 1), (1, 1)] := by kernel_rfl
@[simp] theorem tyZero138 : eZero Go.Proofs.Tryz.prog 138 = some [.string .empty, .slice none 0 0] := by kernel_rfl
@[simp] theorem tySz139 : eSz Go.Proofs.Tryz.prog 139 = some 2 := by kernel_rfl
@[simp] theorem tyAgg139 : eAgg Go.Proofs.Tryz.prog 139 = some true := by kernel_rfl
@[simp] theorem tyStr139 : eStr Go.Proofs.Tryz.prog 139 = false := by kernel_rfl
@[simp] theorem tyFld139_0 : eFld Go.Proofs.Tryz.prog 139 0 = some (9, 0) := by kernel_rfl
@[simp] theorem tyFld139_1 : eFld Go.Proofs.Tryz.prog 139 1 = some (82, 1) := by kernel_rfl
@[simp] theorem tyPl139 : ePl Go.Proofs.Tryz.prog 139 = some [(0, 1), (1, 1)] := by kernel_rfl
@[simp] theorem tyZero139 : eZero Go.Proofs.Tryz.prog 139 = some [.string .empty, .slice none 0 0] := by kernel_rfl
@[simp] theorem tySz140 : eSz Go.Proofs.Tryz.prog 140 = some 1 := by kernel_rfl
@[simp] theorem tyAgg140 : eAgg Go.Proofs.Tryz.prog 140 = some false := by kernel_rfl
@[simp] theorem tyStr140 : eStr Go.Proofs.Tryz.prog 140 = false := by kernel_rfl
@[simp] theorem tySz141 : eSz Go.Proofs.Tryz.prog 141 = some 1 := by kernel_rfl
@[simp] theorem tyAgg141 : eAgg Go.Proofs.Tryz.prog 141 = some false := by kernel_rfl
@[simp] theorem tyStr141 : eStr Go.Proofs.Tryz.prog 141 = false := by kernel_rfl
@[simp] theorem tyZero141 : eZero Go.Proofs.Tryz.prog 141 = some [.nilFunc] := by kernel_rfl
@[simp] theorem tySz142 : eSz Go.Proofs.Tryz.prog 142 = some 1 := by kernel_rfl
@[simp] theorem tyAgg142 : eAgg Go.Proofs.Tryz.prog 142 = some false := by kernel_rfl
@[simp] theorem tyStr142 : eStr Go.Proofs.Tryz.prog 142 = false := by kernel_rfl
@[simp] theorem tyZero142 : eZero Go.Proofs.Tryz.prog 142 = some [.nilFunc] := by kernel_rfl
@[simp] theorem tySz143 : eSz Go.Proofs.Tryz.prog 143 = some 1 := by kernel_rfl
@[simp] theorem tyAgg143 : eAgg Go.Proofs.Tryz.prog 143 = some false := by kernel_rfl
@[simp] theorem tyStr143 : eStr Go.Proofs.Tryz.prog 143 = false := by kernel_rfl
@[simp] theorem tyZero143 : eZero Go.Proofs.Tryz.prog 143 = some [.nilFunc] := by kernel_rfl
@[simp] theorem tySz144 : eSz Go.Proofs.Tryz.prog 144 = some 1 := by kernel_rfl
@[simp] theorem tyAgg144 : eAgg Go.Proofs.Tryz.prog 144 = some false := by kernel_rfl
@[simp] theorem tyStr144 : eStr Go.Proofs.Tryz.prog 144 = false := by kernel_rfl
@[simp] theorem tyZero144 : eZero Go.Proofs.Tryz.prog 144 = some [.nilFunc] := by kernel_rfl
@[simp] theorem tySz145 : eSz Go.Proofs.Tryz.prog 145 = some 1 := by kernel_rfl
@[simp] theorem tyAgg145 : eAgg Go.Proofs.Tryz.prog 145 = some false := by kernel_rfl
@[simp] theorem tyStr145 : eStr Go.Proofs.Tryz.prog 145 = false := by kernel_rfl
@[simp] theorem tyZero145 : eZero Go.Proofs.Tryz.prog 145 = some [.nilFunc] := by kernel_rfl
@[simp] theorem tySz146 : eSz Go.Proofs.Tryz.prog 146 = some 1 := by kernel_rfl
@[simp] theorem tyAgg146 : eAgg Go.Proofs.Tryz.prog 146 = some false := by kernel_rfl
@[simp] theorem tyStr146 : eStr Go.Proofs.Tryz.prog 146 = false := by kernel_rfl
@[simp] theorem tyZero146 : eZero Go.Proofs.Tryz.prog 146 = some [.nilFunc] := by kernel_rfl
@[simp] theorem tySz147 : eSz Go.Proofs.Tryz.prog 147 = some 1 := by kernel_rfl
@[simp] theorem tyAgg147 : eAgg Go.Proofs.Tryz.prog 147 = some false := by kernel_rfl
@[simp] theorem tyStr147 : eStr Go.Proofs.Tryz.prog 147 = false := by kernel_rfl
@[simp] theorem tyZero147 : eZero Go.Proofs.Tryz.prog 147 = some [.nilFunc] := by kernel_rfl
@[simp] theorem tySz148 : eSz Go.Proofs.Tryz.prog 148 = some 1 := by kernel_rfl
@[simp] theorem tyAgg148 : eAgg Go.Proofs.Tryz.prog 148 = some false := by kernel_rfl
@[simp] theorem tyStr148 : eStr Go.Proofs.Tryz.prog 148 = false := by kernel_rfl
@[simp] theorem tyZero148 : eZero Go.Proofs.Tryz.prog 148 = some [.nilFunc] := by kernel_rfl
@[simp] theorem tySz149 : eSz Go.Proofs.Tryz.prog 149 = some 1 := by kernel_rfl
@[simp] theorem tyAgg149 : eAgg Go.Proofs.Tryz.prog 149 = some false := by kernel_rfl
@[simp] theorem tyStr149 : eStr Go.Proofs.Tryz.prog 149 = false := by kernel_rfl
@[simp] theorem tySz150 : eSz Go.Proofs.Tryz.prog 150 = some 1 := by kernel_rfl
@[simp] theorem tyAgg150 : eAgg Go.Proofs.Tryz.prog 150 = some false := by kernel_rfl
@[simp] theorem tyStr150 : eStr Go.Proofs.Tryz.prog 150 = false := by kernel_rfl
@[simp] theorem tyZero150 : eZero Go.Proofs.Tryz.prog 150 = some [.nilFunc] := by kernel_rfl
@[simp] theorem tySz151 : eSz Go.Proofs.Tryz.prog 151 = some 1 := by kernel_rfl
@[simp] theorem tyAgg151 : eAgg Go.Proofs.Tryz.prog 151 = some false := by kernel_rfl
@[simp] theorem tyStr151 : eStr Go.Proofs.Tryz.prog 151 = false := by kernel_rfl
@[simp] theorem tyZero151 : eZero Go.Proofs.Tryz.prog 151 = some [.nilFunc] := by kernel_rfl
@[simp] theorem tySz152 : eSz Go.Proofs.Tryz.prog 152 = some 1 := by kernel_rfl
@[simp] theorem tyAgg152 : eAgg Go.Proofs.Tryz.prog 152 = some false := by kernel_rfl
@[simp] theorem tyStr152 : eStr Go.Proofs.Tryz.prog 152 = false := by kernel_rfl
@[simp] theorem tyZero152 : eZero Go.Proofs.Tryz.prog 152 = some [.nilFunc] := by kernel_rfl
@[simp] theorem tySz153 : eSz Go.Proofs.Tryz.prog 153 = some 1 := by kernel_rfl
@[simp] theorem tyAgg153 : eAgg Go.Proofs.Tryz.prog 153 = some false := by kernel_rfl
@[simp] theorem tyStr153 : eStr Go.Proofs.Tryz.prog 153 = false := by kernel_rfl
@[simp] theorem tyPtr153 : ePtr Go.Proofs.Tryz.prog 153 = true := by kernel_rfl
@[simp] theorem tyZero153 : eZero Go.Proofs.Tryz.prog 153 = some [.pointer none] := by kernel_rfl
@[simp] theorem tySz154 : eSz Go.Proofs.Tryz.prog 154 = some 1 := by kernel_rfl
@[simp] theorem tyAgg154 : eAgg Go.Proofs.Tryz.prog 154 = some false := by kernel_rfl
@[simp] theorem tyStr154 : eStr Go.Proofs.Tryz.prog 154 = false := by kernel_rfl
@[simp] theorem tyZero154 : eZero Go.Proofs.Tryz.prog 154 = some [.nilFunc] := by kernel_rfl
@[simp] theorem tySz155 : eSz Go.Proofs.Tryz.prog 155 = some 1 := by kernel_rfl
@[simp] theorem tyAgg155 : eAgg Go.Proofs.Tryz.prog 155 = some false := by kernel_rfl
@[simp] theorem tyStr155 : eStr Go.Proofs.Tryz.prog 155 = false := by kernel_rfl
@[simp] theorem tyZero155 : eZero Go.Proofs.Tryz.prog 155 = some [.nilFunc] := by kernel_rfl
@[simp] theorem tySz156 : eSz Go.Proofs.Tryz.prog 156 = some 1 := by kernel_rfl
@[simp] theorem tyAgg156 : eAgg Go.Proofs.Tryz.prog 156 = some false := by kernel_rfl
@[simp] theorem tyStr156 : eStr Go.Proofs.Tryz.prog 156 = false := by kernel_rfl
@[simp] theorem tyZero156 : eZero Go.Proofs.Tryz.prog 156 = some [.nilFunc] := by kernel_rfl
@[simp] theorem tySz157 : eSz Go.Proofs.Tryz.prog 157 = some 1 := by kernel_rfl
@[simp] theorem tyAgg157 : eAgg Go.Proofs.Tryz.prog 157 = some false := by kernel_rfl
@[simp] theorem tyStr157 : eStr Go.Proofs.Tryz.prog 157 = false := by kernel_rfl
@[simp] theorem tyZero157 : eZero Go.Proofs.Tryz.prog 157 = some [.nilFunc] := by kernel_rfl
@[simp] theorem tySz158 : eSz Go.Proofs.Tryz.prog 158 = some 1 := by kernel_rfl
@[simp] theorem tyAgg158 : eAgg Go.Proofs.Tryz.prog 158 = some false := by kernel_rfl
@[simp] theorem tyStr158 : eStr Go.Proofs.Tryz.prog 158 = false := by kernel_rfl
@[simp] theorem tyZero158 : eZero Go.Proofs.Tryz.prog 158 = some [.nilFunc] := by kernel_rfl
@[simp] theorem tySz159 : eSz Go.Proofs.Tryz.prog 159 = some 1 := by kernel_rfl
@[simp] theorem tyAgg159 : eAgg Go.Proofs.Tryz.prog 159 = some false := by kernel_rfl
@[simp] theorem tyStr159 : eStr Go.Proofs.Tryz.prog 159 = false := by kernel_rfl
@[simp] theorem tyZero159 : eZero Go.Proofs.Tryz.prog 159 = some [.nilFunc] := by kernel_rfl
@[simp] theorem tySz160 : eSz Go.Proofs.Tryz.prog 160 = some 1 := by kernel_rfl
@[simp] theorem tyAgg160 : eAgg Go.Proofs.Tryz.prog 160 = some false := by kernel_rfl
@[simp] theorem tyStr160 : eStr Go.Proofs.Tryz.prog 160 = false := by kernel_rfl
@[simp] theorem tyZero160 : eZero Go.Proofs.Tryz.prog 160 = some [.nilFunc] := by kernel_rfl
@[simp] theorem tySz161 : eSz Go.Proofs.Tryz.prog 161 = some 1 := by kernel_rfl
@[simp] theorem tyAgg161 : eAgg Go.Proofs.Tryz.prog 161 = some false := by kernel_rfl
@[simp] theorem tyStr161 : eStr Go.Proofs.Tryz.prog 161 = false := by kernel_rfl
@[simp] theorem tyZero161 : eZero Go.Proofs.Tryz.prog 161 = some [.nilFunc] := by kernel_rfl
@[simp] theorem tySz162 : eSz Go.Proofs.Tryz.prog 162 = some 1 := by kernel_rfl
@[simp] theorem tyAgg162 : eAgg Go.Proofs.Tryz.prog 162 = some false := by kernel_rfl
@[simp] theorem tyStr162 : eStr Go.Proofs.Tryz.prog 162 = false := by kernel_rfl
@[simp] theorem tyZero162 : eZero Go.Proofs.Tryz.prog 162 = some [.nilFunc] := by kernel_rfl
@[simp] theorem tySz163 : eSz Go.Proofs.Tryz.prog 163 = some 1 := by kernel_rfl
@[simp] theorem tyAgg163 : eAgg Go.Proofs.Tryz.prog 163 = some false := by kernel_rfl
@[simp] theorem tyStr163 : eStr Go.Proofs.Tryz.prog 163 = false := by kernel_rfl
@[simp] theorem tyZero163 : eZero Go.Proofs.Tryz.prog 163 = some [.nilFunc] := by kernel_rfl
@[simp] theorem tySz164 : eSz Go.Proofs.Tryz.prog 164 = some 1 := by kernel_rfl
@[simp] theorem tyAgg164 : eAgg Go.Proofs.Tryz.prog 164 = some false := by kernel_rfl
@[simp] theorem tyStr164 : eStr Go.Proofs.Tryz.prog 164 = false := by kernel_rfl
@[simp] theorem tyZero164 : eZero Go.Proofs.Tryz.prog 164 = some [.nilFunc] := by kernel_rfl
@[simp] theorem tySz165 : eSz Go.Proofs.Tryz.prog 165 = some 1 := by kernel_rfl
@[simp] theorem tyAgg165 : eAgg Go.Proofs.Tryz.prog 165 = some false := by kernel_rfl
@[simp] theorem tyStr165 : eStr Go.Proofs.Tryz.prog 165 = false := by kernel_rfl
@[simp] theorem tyInt165 : eInt Go.Proofs.Tryz.prog 165 = some .u64 := by kernel_rfl
@[simp] theorem tyZero165 : eZero Go.Proofs.Tryz.prog 165 = some [.int .u64 0] := by kernel_rfl
@[simp] theorem tySz166 : eSz Go.Proofs.Tryz.prog 166 = some 1 := by kernel_rfl
@[simp] theorem tyAgg166 : eAgg Go.Proofs.Tryz.prog 166 = some false := by kernel_rfl
@[simp] theorem tyStr166 : eStr Go.Proofs.Tryz.prog 166 = false := by kernel_rfl
@[simp] theorem tyZero166 : eZero Go.Proofs.Tryz.prog 166 = some [.nilFunc] := by kernel_rfl
@[simp] theorem tySz167 : eSz Go.Proofs.Tryz.prog 167 = some 1 := by kernel_rfl
@[simp] theorem tyAgg167 : eAgg Go.Proofs.Tryz.prog 167 = some false := by kernel_rfl
@[simp] theorem tyStr167 : eStr Go.Proofs.Tryz.prog 167 = false := by kernel_rfl
@[simp] theorem tyZero167 : eZero Go.Proofs.Tryz.prog 167 = some [.nilFunc] := by kernel_rfl
@[simp] theorem tySz168 : eSz Go.Proofs.Tryz.prog 168 = some 1 := by kernel_rfl
@[simp] theorem tyAgg168 : eAgg Go.Proofs.Tryz.prog 168 = some false := by kernel_rfl
@[simp] theorem tyStr168 : eStr Go.Proofs.Tryz.prog 168 = false := by kernel_rfl
@[simp] theorem tyZero168 : eZero Go.Proofs.Tryz.prog 168 = some [.nilFunc] := by kernel_rfl
@[simp] theorem tySz169 : eSz Go.Proofs.Tryz.prog 169 = some 1 := by kernel_rfl
@[simp] theorem tyAgg169 : eAgg Go.Proofs.Tryz.prog 169 = some false := by kernel_rfl
@[simp] theorem tyStr169 : eStr Go.Proofs.Tryz.prog 169 = false := by kernel_rfl
@[simp] theorem tyZero169 : eZero Go.Proofs.Tryz.prog 169 = some [.nilFunc] := by kernel_rfl
@[simp] theorem tySz170 : eSz Go.Proofs.Tryz.prog 170 = some 1 := by kernel_rfl
@[simp] theorem tyAgg170 : eAgg Go.Proofs.Tryz.prog 170 = some false := by kernel_rfl
@[simp] theorem tyStr170 : eStr Go.Proofs.Tryz.prog 170 = false := by kernel_rfl
@[simp] theorem tyZero170 : eZero Go.Proofs.Tryz.prog 170 = some [.nilFunc] := by kernel_rfl
@[simp] theorem tySz171 : eSz Go.Proofs.Tryz.prog 171 = some 1 := by kernel_rfl
@[simp] theorem tyAgg171 : eAgg Go.Proofs.Tryz.prog 171 = some false := by kernel_rfl
@[simp] theorem tyStr171 : eStr Go.Proofs.Tryz.prog 171 = false := by kernel_rfl
@[simp] theorem tyZero171 : eZero Go.Proofs.Tryz.prog 171 = some [.nilFunc] := by kernel_rfl
@[simp] theorem tySz172 : eSz Go.Proofs.Tryz.prog 172 = some 1 := by kernel_rfl
@[simp] theorem tyAgg172 : eAgg Go.Proofs.Tryz.prog 172 = some false := by kernel_rfl
@[simp] theorem tyStr172 : eStr Go.Proofs.Tryz.prog 172 = false := by kernel_rfl
@[simp] theorem tyZero172 : eZero Go.Proofs.Tryz.prog 172 = some [.nilFunc] := by kernel_rfl
@[simp] theorem tySz173 : eSz Go.Proofs.Tryz.prog 173 = some 1 := by kernel_rfl
@[simp] theorem tyAgg173 : eAgg Go.Proofs.Tryz.prog 173 = some false := by kernel_rfl
@[simp] theorem tyStr173 : eStr Go.Proofs.Tryz.prog 173 = false := by kernel_rfl
@[simp] theorem tyZero173 : eZero Go.Proofs.Tryz.prog 173 = some [.nilFunc] := by kernel_rfl
@[simp] theorem tySz174 : eSz Go.Proofs.Tryz.prog 174 = some 1 := by kernel_rfl
@[simp] theorem tyAgg174 : eAgg Go.Proofs.Tryz.prog 174 = some false := by kernel_rfl
@[simp] theorem tyStr174 : eStr Go.Proofs.Tryz.prog 174 = false := by kernel_rfl
@[simp] theorem tySz175 : eSz Go.Proofs.Tryz.prog 175 = some 1 := by kernel_rfl
@[simp] theorem tyAgg175 : eAgg Go.Proofs.Tryz.prog 175 = some false := by kernel_rfl
@[simp] theorem tyStr175 : eStr Go.Proofs.Tryz.prog 175 = false := by kernel_rfl
@[simp] theorem tyZero175 : eZero Go.Proofs.Tryz.prog 175 = some [.nilFunc] := by kernel_rfl
@[simp] theorem tySz176 : eSz Go.Proofs.Tryz.prog 176 = some 1 := by kernel_rfl
@[simp] theorem tyAgg176 : eAgg Go.Proofs.Tryz.prog 176 = some false := by kernel_rfl
@[simp] theorem tyStr176 : eStr Go.Proofs.Tryz.prog 176 = false := by kernel_rfl
@[simp] theorem tyZero176 : eZero Go.Proofs.Tryz.prog 176 = some [.nilFunc] := by kernel_rfl
@[simp] theorem tySz177 : eSz Go.Proofs.Tryz.prog 177 = some 2 := by kernel_rfl
@[simp] theorem tyAgg177 : eAgg Go.Proofs.Tryz.prog 177 = some true := by kernel_rfl
@[simp] theorem tyStr177 : eStr Go.Proofs.Tryz.prog 177 = false := by kernel_rfl
@[simp] theorem tyFld177_0 : eFld Go.Proofs.Tryz.prog 177 0 = some (101, 0) := by kernel_rfl
@[simp] theorem tyFld177_1 : eFld Go.Proofs.Tryz.prog 177 1 = some (4, 1) := by kernel_rfl
@[simp] theorem tyPl177 : ePl Go.Proofs.Tryz.prog 177 = some [(0, 1), (1, 1)] := by kernel_rfl
@[simp] theorem tyZero177 : eZero Go.Proofs.Tryz.prog 177 = some [.slice none 0 0, .bool false] := by kernel_rfl
@[simp] theorem tySz178 : eSz Go.Proofs.Tryz.prog 178 = some 2 := by kernel_rfl
@[simp] theorem tyAgg178 : eAgg Go.Proofs.Tryz.prog 178 = some true := by kernel_rfl
@[simp] theorem tyStr178 : eStr Go.Proofs.Tryz.prog 178 = false := by kernel_rfl
@[simp] theorem tyFld178_0 : eFld Go.Proofs.Tryz.prog 178 0 = some (101, 0) := by kernel_rfl
@[simp] theorem tyFld178_1 : eFld Go.Proofs.Tryz.prog 178 1 = some (4, 1) := by kernel_rfl
@[simp] theorem tyPl178 : ePl Go.Proofs.Tryz.prog 178 = some [(0, 1), (1, 1)] := by kernel_rfl
@[simp] theorem tyZero178 : eZero Go.Proofs.Tryz.prog 178 = some [.slice none 0 0, .bool false] := by kernel_rfl
@[simp] theorem tySz179 : eSz Go.Proofs.Tryz.prog 179 = some 1 := by kernel_rfl
@[simp] theorem tyAgg179 : eAgg Go.Proofs.Tryz.prog 179 = some false := by kernel_rfl
@[simp] theorem tyStr179 : eStr Go.Proofs.Tryz.prog 179 = false := by kernel_rfl
@[simp] theorem tyZero179 : eZero Go.Proofs.Tryz.prog 179 = some [.nilFunc] := by kernel_rfl
@[simp] theorem tySz180 : eSz Go.Proofs.Tryz.prog 180 = some 1 := by kernel_rfl
@[simp] theorem tyAgg180 : eAgg Go.Proofs.Tryz.prog 180 = some false := by kernel_rfl
@[simp] theorem tyStr180 : eStr Go.Proofs.Tryz.prog 180 = false := by kernel_rfl
@[simp] theorem tyPtr180 : ePtr Go.Proofs.Tryz.prog 180 = true := by kernel_rfl
@[simp] theorem tyZero180 : eZero Go.Proofs.Tryz.prog 180 = some [.pointer none] := by kernel_rfl
@[simp] theorem tySz181 : eSz Go.Proofs.Tryz.prog 181 = some 1 := by kernel_rfl
@[simp] theorem tyAgg181 : eAgg Go.Proofs.Tryz.prog 181 = some false := by kernel_rfl
@[simp] theorem tyStr181 : eStr Go.Proofs.Tryz.prog 181 = false := by kernel_rfl
@[simp] theorem tyZero181 : eZero Go.Proofs.Tryz.prog 181 = some [.nilFunc] := by kernel_rfl
@[simp] theorem tySz182 : eSz Go.Proofs.Tryz.prog 182 = some 1 := by kernel_rfl
@[simp] theorem tyAgg182 : eAgg Go.Proofs.Tryz.prog 182 = some false := by kernel_rfl
@[simp] theorem tyStr182 : eStr Go.Proofs.Tryz.prog 182 = false := by kernel_rfl
@[simp] theorem tyZero182 : eZero Go.Proofs.Tryz.prog 182 = some [.nilFunc] := by kernel_rfl
@[simp] theorem tySz183 : eSz Go.Proofs.Tryz.prog 183 = some 1 := by kernel_rfl
@[simp] theorem tyAgg183 : eAgg Go.Proofs.Tryz.prog 183 = some false := by kernel_rfl
@[simp] theorem tyStr183 : eStr Go.Proofs.Tryz.prog 183 = false := by kernel_rfl
@[simp] theorem tyZero183 : eZero Go.Proofs.Tryz.prog 183 = some [.nilFunc] := by kernel_rfl
@[simp] theorem tySz184 : eSz Go.Proofs.Tryz.prog 184 = some 1 := by kernel_rfl
@[simp] theorem tyAgg184 : eAgg Go.Proofs.Tryz.prog 184 = some false := by kernel_rfl
@[simp] theorem tyStr184 : eStr Go.Proofs.Tryz.prog 184 = false := by kernel_rfl
@[simp] theorem tyZero184 : eZero Go.Proofs.Tryz.prog 184 = some [.nilFunc] := by kernel_rfl
@[simp] theorem tySz185 : eSz Go.Proofs.Tryz.prog 185 = some 1 := by kernel_rfl
@[simp] theorem tyAgg185 : eAgg Go.Proofs.Tryz.prog 185 = some false := by kernel_rfl
@[simp] theorem tyStr185 : eStr Go.Proofs.Tryz.prog 185 = false := by kernel_rfl
@[simp] theorem tyZero185 : eZero Go.Proofs.Tryz.prog 185 = some [.nilFunc] := by kernel_rfl
@[simp] theorem tySz186 : eSz Go.Proofs.Tryz.prog 186 = some 1 := by kernel_rfl
@[simp] theorem tyAgg186 : eAgg Go.Proofs.Tryz.prog 186 = some false := by kernel_rfl
@[simp] theorem tyStr186 : eStr Go.Proofs.Tryz.prog 186 = false := by kernel_rfl
@[simp] theorem tyZero186 : eZero Go.Proofs.Tryz.prog 186 = some [.nilFunc] := by kernel_rfl
@[simp] theorem tySz187 : eSz Go.Proofs.Tryz.prog 187 = some 1 := by kernel_rfl
@[simp] theorem tyAgg187 : eAgg Go.Proofs.Tryz.prog 187 = some false := by kernel_rfl
@[simp] theorem tyStr187 : eStr Go.Proofs.Tryz.prog 187 = false := by kernel_rfl
@[simp] theorem tyZero187 : eZero Go.Proofs.Tryz.prog 187 = some [.nilFunc] := by kernel_rfl
@[simp] theorem tySz188 : eSz Go.Proofs.Tryz.prog 188 = some 3 := by kernel_rfl
@[simp] theorem tyAgg188 : eAgg Go.Proofs.Tryz.prog 188 = some true := by kernel_rfl
@[simp] theorem tyStr188 : eStr Go.Proofs.Tryz.prog 188 = false := by kernel_rfl
@[simp] theorem tyFld188_0 : eFld Go.Proofs.Tryz.prog 188 0 = some (3, 0) := by kernel_rfl
@[simp] theorem tyFld188_1 : eFld Go.Proofs.Tryz.prog 188 1 = some (9, 1) := by kernel_rfl
@[simp] theorem tyFld188_2 : eFld Go.Proofs.Tryz.prog 188 2 = some (4, 2) := by kernel_rfl
@[simp] theorem tyPl188 : ePl Go.Proofs.Tryz.prog 188 = some [(0, 1), (1, 1), (2, 1)] := by kernel_rfl
@[simp] theorem tyZero188 : eZero Go.Proofs.Tryz.prog 188 = some [.int .i64 0, .string .empty, .bool false] := by kernel_rfl
@[simp] theorem tySz189 : eSz Go.Proofs.Tryz.prog 189 = some 3 := by kernel_rfl
@[simp] theorem tyAgg189 : eAgg Go.Proofs.Tryz.prog 189 = some true := by kernel_rfl
@[simp] theorem tyStr189 : eStr Go.Proofs.Tryz.prog 189 = false := by kernel_rfl
@[simp] theorem tyFld189_0 : eFld Go.Proofs.Tryz.prog 189 0 = some (3, 0) := by kernel_rfl
@[simp] theorem tyFld189_1 : eFld Go.Proofs.Tryz.prog 189 1 = some (9, 1) := by kernel_rfl
@[simp] theorem tyFld189_2 : eFld Go.Proofs.Tryz.prog 189 2 = some (4, 2) := by kernel_rfl
@[simp] theorem tyPl189 : ePl Go.Proofs.Tryz.prog 189 = some [(0, 1), (1, 1), (2, 1)] := by kernel_rfl
@[simp] theorem tyZero189 : eZero Go.Proofs.Tryz.prog 189 = some [.int .i64 0, .string .empty, .bool false] := by kernel_rfl
@[simp] theorem tySz190 : eSz Go.Proofs.Tryz.prog 190 = some 1 := by kernel_rfl
@[simp] theorem tyAgg190 : eAgg Go.Proofs.Tryz.prog 190 = some false := by kernel_rfl
@[simp] theorem tyStr190 : eStr Go.Proofs.Tryz.prog 190 = false := by kernel_rfl
@[simp] theorem tyZero190 : eZero Go.Proofs.Tryz.prog 190 = some [.nilFunc] := by kernel_rfl
@[simp] theorem tySz191 : eSz Go.Proofs.Tryz.prog 191 = some 1 := by kernel_rfl
@[simp] theorem tyAgg191 : eAgg Go.Proofs.Tryz.prog 191 = some false := by kernel_rfl
@[simp] theorem tyStr191 : eStr Go.Proofs.Tryz.prog 191 = false := by kernel_rfl
@[simp] theorem tyZero191 : eZero Go.Proofs.Tryz.prog 191 = some [.nilFunc] := by kernel_rfl
@[simp] theorem tySz192 : eSz Go.Proofs.Tryz.prog 192 = some 1 := by kernel_rfl
@[simp] theorem tyAgg192 : eAgg Go.Proofs.Tryz.prog 192 = some false := by kernel_rfl
@[simp] theorem tyStr192 : eStr Go.Proofs.Tryz.prog 192 = false := by kernel_rfl
@[simp] theorem tyZero192 : eZero Go.Proofs.Tryz.prog 192 = some [.nilFunc] := by kernel_rfl
@[simp] theorem tySz193 : eSz Go.Proofs.Tryz.prog 193 = some 1 := by kernel_rfl
@[simp] theorem tyAgg193 : eAgg Go.Proofs.Tryz.prog 193 = some false := by kernel_rfl
@[simp] theorem tyStr193 : eStr Go.Proofs.Tryz.prog 193 = false := by kernel_rfl
@[simp] theorem tyZero193 : eZero Go.Proofs.Tryz.prog 193 = some [.nilFunc] := by kernel_rfl
@[simp] theorem tySz194 : eSz Go.Proofs.Tryz.prog 194 = some 1 := by kernel_rfl
@[simp] theorem tyAgg194 : eAgg Go.Proofs.Tryz.prog 194 = some false := by kernel_rfl
@[simp] theorem tyStr194 : eStr Go.Proofs.Tryz.prog 194 = false := by kernel_rfl
@[simp] theorem tyZero194 : eZero Go.Proofs.Tryz.prog 194 = some [.nilFunc] := by kernel_rfl
@[simp] theorem tySz195 : eSz Go.Proofs.Tryz.prog 195 = some 1 := by kernel_rfl
@[simp] theorem tyAgg195 : eAgg Go.Proofs.Tryz.prog 195 = some false := by kernel_rfl
@[simp] theorem tyStr195 : eStr Go.Proofs.Tryz.prog 195 = false := by kernel_rfl
@[simp] theorem tyZero195 : eZero Go.Proofs.Tryz.prog 195 = some [.nilFunc] := by kernel_rfl
@[simp] theorem tySz196 : eSz Go.Proofs.Tryz.prog 196 = some 1 := by kernel_rfl
@[simp] theorem tyAgg196 : eAgg Go.Proofs.Tryz.prog 196 = some false := by kernel_rfl
@[simp] theorem tyStr196 : eStr Go.Proofs.Tryz.prog 196 = false := by kernel_rfl
@[simp] theorem tyZero196 : eZero Go.Proofs.Tryz.prog 196 = some [.nilFunc] := by kernel_rfl
@[simp] theorem tySz197 : eSz Go.Proofs.Tryz.prog 197 = some 1 := by kernel_rfl
@[simp] theorem tyAgg197 : eAgg Go.Proofs.Tryz.prog 197 = some false := by kernel_rfl
@[simp] theorem tyStr197 : eStr Go.Proofs.Tryz.prog 197 = false := by kernel_rfl
@[simp] theorem tyZero197 : eZero Go.Proofs.Tryz.prog 197 = some [.nilFunc] := by kernel_rfl
@[simp] theorem tySz198 : eSz Go.Proofs.Tryz.prog 198 = some 1 := by kernel_rfl
@[simp] theorem tyAgg198 : eAgg Go.Proofs.Tryz.prog 198 = some false := by kernel_rfl
@[simp] theorem tyStr198 : eStr Go.Proofs.Tryz.prog 198 = false := by kernel_rfl
@[simp] theorem tyZero198 : eZero Go.Proofs.Tryz.prog 198 = some [.nilFunc] := by kernel_rfl
@[simp] theorem tySz199 : eSz Go.Proofs.Tryz.prog 199 = some 1 := by kernel_rfl
@[simp] theorem tyAgg199 : eAgg Go.Proofs.Tryz.prog 199 = some false := by kernel_rfl
@[simp] theorem tyStr199 : eStr Go.Proofs.Tryz.prog 199 = false := by kernel_rfl
@[simp] theorem tyZero199 : eZero Go.Proofs.Tryz.prog 199 = some [.nilFunc] := by kernel_rfl
@[simp] theorem tySz200 : eSz Go.Proofs.Tryz.prog 200 = some 1 := by kernel_rfl
@[simp] theorem tyAgg200 : eAgg Go.Proofs.Tryz.prog 200 = some false := by kernel_rfl
@[simp] theorem tyStr200 : eStr Go.Proofs.Tryz.prog 200 = false := by kernel_rfl
@[simp] theorem tyZero200 : eZero Go.Proofs.Tryz.prog 200 = some [.nilFunc] := by kernel_rfl
@[simp] theorem tySz201 : eSz Go.Proofs.Tryz.prog 201 = some 1 := by kernel_rfl
@[simp] theorem tyAgg201 : eAgg Go.Proofs.Tryz.prog 201 = some false := by kernel_rfl
@[simp] theorem tyStr201 : eStr Go.Proofs.Tryz.prog 201 = false := by kernel_rfl
@[simp] theorem tyZero201 : eZero Go.Proofs.Tryz.prog 201 = some [.nilFunc] := by kernel_rfl
@[simp] theorem tySz202 : eSz Go.Proofs.Tryz.prog 202 = some 1 := by kernel_rfl
@[simp] theorem tyAgg202 : eAgg Go.Proofs.Tryz.prog 202 = some false := by kernel_rfl
@[simp] theorem tyStr202 : eStr Go.Proofs.Tryz.prog 202 = false := by kernel_rfl
@[simp] theorem tySz203 : eSz Go.Proofs.Tryz.prog 203 = some 1 := by kernel_rfl
@[simp] theorem tyAgg203 : eAgg Go.Proofs.Tryz.prog 203 = some false := by kernel_rfl
@[simp] theorem tyStr203 : eStr Go.Proofs.Tryz.prog 203 = false := by kernel_rfl
@[simp] theorem tyZero203 : eZero Go.Proofs.Tryz.prog 203 = some [.nilFunc] := by kernel_rfl
@[simp] theorem tySz204 : eSz Go.Proofs.Tryz.prog 204 = some 1 := by kernel_rfl
@[simp] theorem tyAgg204 : eAgg Go.Proofs.Tryz.prog 204 = some false := by kernel_rfl
@[simp] theorem tyStr204 : eStr Go.Proofs.Tryz.prog 204 = false := by kernel_rfl
@[simp] theorem tyZero204 : eZero Go.Proofs.Tryz.prog 204 = some [.nilFunc] := by kernel_rfl
@[simp] theorem tySz205 : eSz Go.Proofs.Tryz.prog 205 = some 1 := by kernel_rfl
@[simp] theorem tyAgg205 : eAgg Go.Proofs.Tryz.prog 205 = some false := by kernel_rfl
@[simp] theorem tyElem205 : eElem Go.Proofs.Tryz.prog 205 = some (101, 1) := by kernel_rfl
@[simp] theorem tyBytes101 : eBytes Go.Proofs.Tryz.prog 101 = some 24 := by kernel_rfl
@[simp] theorem tyStr205 : eStr Go.Proofs.Tryz.prog 205 = false := by kernel_rfl
@[simp] theorem tyZero205 : eZero Go.Proofs.Tryz.prog 205 = some [.slice none 0 0] := by kernel_rfl
@[simp] theorem tySz206 : eSz Go.Proofs.Tryz.prog 206 = some 1 := by kernel_rfl
@[simp] theorem tyAgg206 : eAgg Go.Proofs.Tryz.prog 206 = some false := by kernel_rfl
@[simp] theorem tyStr206 : eStr Go.Proofs.Tryz.prog 206 = false := by kernel_rfl
@[simp] theorem tyZero206 : eZero Go.Proofs.Tryz.prog 206 = some [.nilFunc] := by kernel_rfl
@[simp] theorem tySz207 : eSz Go.Proofs.Tryz.prog 207 = some 1 := by kernel_rfl
@[simp] theorem tyAgg207 : eAgg Go.Proofs.Tryz.prog 207 = some false := by kernel_rfl
@[simp] theorem tyStr207 : eStr Go.Proofs.Tryz.prog 207 = false := by kernel_rfl
@[simp] theorem tyZero207 : eZero Go.Proofs.Tryz.prog 207 = some [.nilFunc] := by kernel_rfl
@[simp] theorem tySz208 : eSz Go.Proofs.Tryz.prog 208 = some 1 := by kernel_rfl
@[simp] theorem tyAgg208 : eAgg Go.Proofs.Tryz.prog 208 = some false := by kernel_rfl
@[simp] theorem tyElem208 : eElem Go.Proofs.Tryz.prog 208 = some (226, 2) := by kernel_rfl
@[simp] theorem tyBytes226 : eBytes Go.Proofs.Tryz.prog 226 = some 24 := by kernel_rfl
@[simp] theorem tyStr208 : eStr Go.Proofs.Tryz.prog 208 = false := by kernel_rfl
@[simp] theorem tyZero208 : eZero Go.Proofs.Tryz.prog 208 = some [.slice none 0 0] := by kernel_rfl
@[simp] theorem tySz209 : eSz Go.Proofs.Tryz.prog 209 = some 1 := by kernel_rfl
@[simp] theorem tyAgg209 : eAgg Go.Proofs.Tryz.prog 209 = some false := by kernel_rfl
@[simp] theorem tyStr209 : eStr Go.Proofs.Tryz.prog 209 = false := by kernel_rfl
@[simp] theorem tyZero209 : eZero Go.Proofs.Tryz.prog 209 = some [.nilFunc] := by kernel_rfl
@[simp] theorem tySz210 : eSz Go.Proofs.Tryz.prog 210 = some 1 := by kernel_rfl
@[simp] theorem tyAgg210 : eAgg Go.Proofs.Tryz.prog 210 = some false := by kernel_rfl
@[simp] theorem tyStr210 : eStr Go.Proofs.Tryz.prog 210 = false := by kernel_rfl
@[simp] theorem tyZero210 : eZero Go.Proofs.Tryz.prog 210 = some [.nilFunc] := by kernel_rfl
@[simp] theorem tySz211 : eSz Go.Proofs.Tryz.prog 211 = some 1 := by kernel_rfl
@[simp] theorem tyAgg211 : eAgg Go.Proofs.Tryz.prog 211 = some false := by kernel_rfl
@[simp] theorem tyStr211 : eStr Go.Proofs.Tryz.prog 211 = false := by kernel_rfl
@[simp] theorem tyZero211 : eZero Go.Proofs.Tryz.prog 211 = some [.nilFunc] := by kernel_rfl
@[simp] theorem tySz212 : eSz Go.Proofs.Tryz.prog 212 = some 1 := by kernel_rfl
@[simp] theorem tyAgg212 : eAgg Go.Proofs.Tryz.prog 212 = some false := by kernel_rfl
@[simp] theorem tyStr212 : eStr Go.Proofs.Tryz.prog 212 = false := by kernel_rfl
@[simp] theorem tyZero212 : eZero Go.Proofs.Tryz.prog 212 = some [.nilFunc] := by kernel_rfl
@[simp] theorem tySz213 : eSz Go.Proofs.Tryz.prog 213 = some 1 := by kernel_rfl
@[simp] theorem tyAgg213 : eAgg Go.Proofs.Tryz.prog 213 = some false := by kernel_rfl
@[simp] theorem tyStr213 : eStr Go.Proofs.Tryz.prog 213 = false := by kernel_rfl
@[simp] theorem tyZero213 : eZero Go.Proofs.Tryz.prog 213 = some [.nilFunc] := by kernel_rfl
@[simp] theorem tySz214 : eSz Go.Proofs.Tryz.prog 214 = some 1 := by kernel_rfl
@[simp] theorem tyAgg214 : eAgg Go.Proofs.Tryz.prog 214 = some false := by kernel_rfl
@[simp] theorem tyStr214 : eStr Go.Proofs.Tryz.prog 214 = false := by kernel_rfl
@[simp] theorem tyPtr214 : ePtr Go.Proofs.Tryz.prog 214 = true := by kernel_rfl
@[simp] theorem tyZero214 : eZero Go.Proofs.Tryz.prog 214 = some [.pointer none] := by kernel_rfl
@[simp] theorem tySz215 : eSz Go.Proofs.Tryz.prog 215 = some 1 := by kernel_rfl
@[simp] theorem tyAgg215 : eAgg Go.Proofs.Tryz.prog 215 = some false := by kernel_rfl
@[simp] theorem tyStr215 : eStr Go.Proofs.Tryz.prog 215 = false := by kernel_rfl
@[simp] theorem tyZero215 : eZero Go.Proofs.Tryz.prog 215 = some [.nilFunc] := by kernel_rfl
@[simp] theorem tySz216 : eSz Go.Proofs.Tryz.prog 216 = some 1 := by kernel_rfl
@[simp] theorem tyAgg216 : eAgg Go.Proofs.Tryz.prog 216 = some false := by kernel_rfl
@[simp] theorem tyStr216 : eStr Go.Proofs.Tryz.prog 216 = false := by kernel_rfl
@[simp] theorem tyZero216 : eZero Go.Proofs.Tryz.prog 216 = some [.pointer none] := by kernel_rfl
@[simp] theorem tySz217 : eSz Go.Proofs.Tryz.prog 217 = some 1 := by kernel_rfl
@[simp] theorem tyAgg217 : eAgg Go.Proofs.Tryz.prog 217 = some false := by kernel_rfl
@[simp] theorem tyStr217 : eStr Go.Proofs.Tryz.prog 217 = false := by kernel_rfl
@[simp] theorem tyZero217 : eZero Go.Proofs.Tryz.prog 217 = some [.nilFunc] := by kernel_rfl
@[simp] theorem tySz218 : eSz Go.Proofs.Tryz.prog 218 = some 1 := by kernel_rfl
@[simp] theorem tyAgg218 : eAgg Go.Proofs.Tryz.prog 218 = some false := by kernel_rfl
@[simp] theorem tyStr218 : eStr Go.Proofs.Tryz.prog 218 = false := by kernel_rfl
@[simp] theorem tyZero218 : eZero Go.Proofs.Tryz.prog 218 = some [.nilFunc] := by kernel_rfl
@[simp] theorem tySz219 : eSz Go.Proofs.Tryz.prog 219 = some 1 := by kernel_rfl
@[simp] theorem tyAgg219 : eAgg Go.Proofs.Tryz.prog 219 = some false := by kernel_rfl
@[simp] theorem tyStr219 : eStr Go.Proofs.Tryz.prog 219 = false := by kernel_rfl
@[simp] theorem tyZero219 : eZero Go.Proofs.Tryz.prog 219 = some [.nilFunc] := by kernel_rfl
@[simp] theorem tySz220 : eSz Go.Proofs.Tryz.prog 220 = some 1 := by kernel_rfl
@[simp] theorem tyAgg220 : eAgg Go.Proofs.Tryz.prog 220 = some false := by kernel_rfl
@[simp] theorem tyStr220 : eStr Go.Proofs.Tryz.prog 220 = false := by kernel_rfl
@[simp] theorem tyZero220 : eZero Go.Proofs.Tryz.prog 220 = some [.nilFunc] := by kernel_rfl
@[simp] theorem tySz221 : eSz Go.Proofs.Tryz.prog 221 = some 1 := by kernel_rfl
@[simp] theorem tyAgg221 : eAgg Go.Proofs.Tryz.prog 221 = some false := by kernel_rfl
@[simp] theorem tyStr221 : eStr Go.Proofs.Tryz.prog 221 = false := by kernel_rfl
@[simp] theorem tyZero221 : eZero Go.Proofs.Tryz.prog 221 = some [.nilFunc] := by kernel_rfl
@[simp] theorem tySz222 : eSz Go.Proofs.Tryz.prog 222 = some 1 := by kernel_rfl
@[simp] theorem tyAgg222 : eAgg Go.Proofs.Tryz.prog 222 = some false := by kernel_rfl
@[simp] theorem tyStr222 : eStr Go.Proofs.Tryz.prog 222 = false := by kernel_rfl
@[simp] theorem tyZero222 : eZero Go.Proofs.Tryz.prog 222 = some [.nilFunc] := by kernel_rfl
@[simp] theorem tySz223 : eSz Go.Proofs.Tryz.prog 223 = some 1 := by kernel_rfl
@[simp] theorem tyAgg223 : eAgg Go.Proofs.Tryz.prog 223 = some false := by kernel_rfl
@[simp] theorem tyStr223 : eStr Go.Proofs.Tryz.prog 223 = false := by kernel_rfl
@[simp] theorem tyZero223 : eZero Go.Proofs.Tryz.prog 223 = some [.nilFunc] := by kernel_rfl
@[simp] theorem tySz224 : eSz Go.Proofs.Tryz.prog 224 = some 1 := by kernel_rfl
@[simp] theorem tyAgg224 : eAgg Go.Proofs.Tryz.prog 224 = some false := by kernel_rfl
@[simp] theorem tyStr224 : eStr Go.Proofs.Tryz.prog 224 = false := by kernel_rfl
@[simp] theorem tyZero224 : eZero Go.Proofs.Tryz.prog 224 = some [.nilFunc] := by kernel_rfl
@[simp] theorem tySz225 : eSz Go.Proofs.Tryz.prog 225 = some 2 := by kernel_rfl
@[simp] theorem tyAgg225 : eAgg Go.Proofs.Tryz.prog 225 = some true := by kernel_rfl
@[simp] theorem tyStr225 : eStr Go.Proofs.Tryz.prog 225 = false := by kernel_rfl
@[simp] theorem tyFld225_0 : eFld Go.Proofs.Tryz.prog 225 0 = some (3, 0) := by kernel_rfl
@[simp] theorem tyFld225_1 : eFld Go.Proofs.Tryz.prog 225 1 = some (9, 1) := by kernel_rfl
@[simp] theorem tyPl225 : ePl Go.Proofs.Tryz.prog 225 = some [(0, 1), (1, 1)] := by kernel_rfl
@[simp] theorem tyZero225 : eZero Go.Proofs.Tryz.prog 225 = some [.int .i64 0, .string .empty] := by kernel_rfl
@[simp] theorem tySz226 : eSz Go.Proofs.Tryz.prog 226 = some 2 := by kernel_rfl
@[simp] theorem tyAgg226 : eAgg Go.Proofs.Tryz.prog 226 = some true := by kernel_rfl
@[simp] theorem tyStr226 : eStr Go.Proofs.Tryz.prog 226 = false := by kernel_rfl
@[simp] theorem tyFld226_0 : eFld Go.Proofs.Tryz.prog 226 0 = some (3, 0) := by kernel_rfl
@[simp] theorem tyFld226_1 : eFld Go.Proofs.Tryz.prog 226 1 = some (9, 1) := by kernel_rfl
@[simp] theorem tyPl226 : ePl Go.Proofs.Tryz.prog 226 = some [(0, 1), (1, 1)] := by kernel_rfl
@[simp] theorem tyZero226 : eZero Go.Proofs.Tryz.prog 226 = some [.int .i64 0, .string .empty] := by kernel_rfl
@[simp] theorem tySz227 : eSz Go.Proofs.Tryz.prog 227 = some 1 := by kernel_rfl
@[simp] theorem tyAgg227 : eAgg Go.Proofs.Tryz.prog 227 = some false := by kernel_rfl
@[simp] theorem tyStr227 : eStr Go.Proofs.Tryz.prog 227 = false := by kernel_rfl
@[simp] theorem tyZero227 : eZero Go.Proofs.Tryz.prog 227 = some [.nilFunc] := by kernel_rfl
@[simp] theorem tySz228 : eSz Go.Proofs.Tryz.prog 228 = some 1 := by kernel_rfl
@[simp] theorem tyAgg228 : eAgg Go.Proofs.Tryz.prog 228 = some false := by kernel_rfl
@[simp] theorem tyStr228 : eStr Go.Proofs.Tryz.prog 228 = false := by kernel_rfl
@[simp] theorem tySz229 : eSz Go.Proofs.Tryz.prog 229 = some 1 := by kernel_rfl
@[simp] theorem tyAgg229 : eAgg Go.Proofs.Tryz.prog 229 = some false := by kernel_rfl
@[simp] theorem tyStr229 : eStr Go.Proofs.Tryz.prog 229 = false := by kernel_rfl
@[simp] theorem tyZero229 : eZero Go.Proofs.Tryz.prog 229 = some [.nilFunc] := by kernel_rfl
@[simp] theorem tySz230 : eSz Go.Proofs.Tryz.prog 230 = some 1 := by kernel_rfl
@[simp] theorem tyAgg230 : eAgg Go.Proofs.Tryz.prog 230 = some false := by kernel_rfl
@[simp] theorem tyStr230 : eStr Go.Proofs.Tryz.prog 230 = false := by kernel_rfl
@[simp] theorem tyZero230 : eZero Go.Proofs.Tryz.prog 230 = some [.nilFunc] := by kernel_rfl
@[simp] theorem tySz231 : eSz Go.Proofs.Tryz.prog 231 = some 256 := by kernel_rfl
@[simp] theorem tyAgg231 : eAgg Go.Proofs.Tryz.prog 231 = some true := by kernel_rfl
@[simp] theorem tyStr231 : eStr Go.Proofs.Tryz.prog 231 = false := by kernel_rfl
@[simp] theorem tyArr231 : eArr Go.Proofs.Tryz.prog 231 = some (4, 256, 1) := by kernel_rfl
@[simp] theorem tySz232 : eSz Go.Proofs.Tryz.prog 232 = some 256 := by kernel_rfl
@[simp] theorem tyAgg232 : eAgg Go.Proofs.Tryz.prog 232 = some true := by kernel_rfl
@[simp] theorem tyStr232 : eStr Go.Proofs.Tryz.prog 232 = false := by kernel_rfl
@[simp] theorem tyArr232 : eArr Go.Proofs.Tryz.prog 232 = some (4, 256, 1) := by kernel_rfl
@[simp] theorem tySz233 : eSz Go.Proofs.Tryz.prog 233 = some 1 := by kernel_rfl
@[simp] theorem tyAgg233 : eAgg Go.Proofs.Tryz.prog 233 = some false := by kernel_rfl
@[simp] theorem tyStr233 : eStr Go.Proofs.Tryz.prog 233 = false := by kernel_rfl
@[simp] theorem tySz234 : eSz Go.Proofs.Tryz.prog 234 = some 1 := by kernel_rfl
@[simp] theorem tyAgg234 : eAgg Go.Proofs.Tryz.prog 234 = some false := by kernel_rfl
@[simp] theorem tyStr234 : eStr Go.Proofs.Tryz.prog 234 = false := by kernel_rfl
@[simp] theorem tyZero234 : eZero Go.Proofs.Tryz.prog 234 = some [.nilFunc] := by kernel_rfl
@[simp] theorem tySz235 : eSz Go.Proofs.Tryz.prog 235 = some 1 := by kernel_rfl
@[simp] theorem tyAgg235 : eAgg Go.Proofs.Tryz.prog 235 = some false := by kernel_rfl
@[simp] theorem tyStr235 : eStr Go.Proofs.Tryz.prog 235 = false := by kernel_rfl
@[simp] theorem tyZero235 : eZero Go.Proofs.Tryz.prog 235 = some [.nilFunc] := by kernel_rfl
@[simp] theorem tySz236 : eSz Go.Proofs.Tryz.prog 236 = some 1 := by kernel_rfl
@[simp] theorem tyAgg236 : eAgg Go.Proofs.Tryz.prog 236 = some false := by kernel_rfl
@[simp] theorem tyStr236 : eStr Go.Proofs.Tryz.prog 236 = false := by kernel_rfl
@[simp] theorem tyPtr236 : ePtr Go.Proofs.Tryz.prog 236 = true := by kernel_rfl
@[simp] theorem tyZero236 : eZero Go.Proofs.Tryz.prog 236 = some [.pointer none] := by kernel_rfl
@[simp] theorem tySz237 : eSz Go.Proofs.Tryz.prog 237 = some 1 := by kernel_rfl
@[simp] theorem tyAgg237 : eAgg Go.Proofs.Tryz.prog 237 = some false := by kernel_rfl
@[simp] theorem tyStr237 : eStr Go.Proofs.Tryz.prog 237 = false := by kernel_rfl
@[simp] theorem tyZero237 : eZero Go.Proofs.Tryz.prog 237 = some [.nilFunc] := by kernel_rfl
@[simp] theorem tySz238 : eSz Go.Proofs.Tryz.prog 238 = some 24 := by kernel_rfl
@[simp] theorem tyAgg238 : eAgg Go.Proofs.Tryz.prog 238 = some true := by kernel_rfl
@[simp] theorem tyStr238 : eStr Go.Proofs.Tryz.prog 238 = false := by kernel_rfl
@[simp] theorem tyArr238 : eArr Go.Proofs.Tryz.prog 238 = some (5, 24, 1) := by kernel_rfl
@[simp] theorem tyZero238 : eZero Go.Proofs.Tryz.prog 238 = some [.int .u8 0, .int .u8 0, .int .u8 0, .int .u8 0, .int .u8 0, .int .u8 0, .int .u8 0, .int .u8 0, .int .u8 0, .int .u8 0, .int .u8 0, .int .u8 0, .int .u8 0, .int .u8 0, .int .u8 0, .int .u8 0, .int .u8 0, .int .u8 0, .int .u8 0, .int .u8 0, .int .u8 0, .int .u8 0, .int .u8 0, .int .u8 0] := by kernel_rfl
@[simp] theorem tySz239 : eSz Go.Proofs.Tryz.prog 239 = some 1 := by kernel_rfl
@[simp] theorem tyAgg239 : eAgg Go.Proofs.Tryz.prog 239 = some false := by kernel_rfl
@[simp] theorem tyStr239 : eStr Go.Proofs.Tryz.prog 239 = false := by kernel_rfl
@[simp] theorem tyInt239 : eInt Go.Proofs.Tryz.prog 239 = some .u64 := by kernel_rfl
@[simp] theorem tyZero239 : eZero Go.Proofs.Tryz.prog 239 = some [.int .u64 0] := by kernel_rfl
@[simp] theorem tySz240 : eSz Go.Proofs.Tryz.prog 240 = some 1 := by kernel_rfl
@[simp] theorem tyAgg240 : eAgg Go.Proofs.Tryz.prog 240 = some false := by kernel_rfl
@[simp] theorem tyStr240 : eStr Go.Proofs.Tryz.prog 240 = false := by kernel_rfl
@[simp] theorem tyZero240 : eZero Go.Proofs.Tryz.prog 240 = some [.nilFunc] := by kernel_rfl
@[simp] theorem tySz241 : eSz Go.Proofs.Tryz.prog 241 = some 1 := by kernel_rfl
@[simp] theorem tyAgg241 : eAgg Go.Proofs.Tryz.prog 241 = some false := by kernel_rfl
@[simp] theorem tyStr241 : eStr Go.Proofs.Tryz.prog 241 = false := by kernel_rfl
@[simp] theorem tyZero241 : eZero Go.Proofs.Tryz.prog 241 = some [.nilFunc] := by kernel_rfl
@[simp] theorem tySz242 : eSz Go.Proofs.Tryz.prog 242 = some 1 := by kernel_rfl
@[simp] theorem tyAgg242 : eAgg Go.Proofs.Tryz.prog 242 = some false := by kernel_rfl
@[simp] theorem tyStr242 : eStr Go.Proofs.Tryz.prog 242 = false := by kernel_rfl
@[simp] theorem tySz243 : eSz Go.Proofs.Tryz.prog 243 = some 1 := by kernel_rfl
@[simp] theorem tyAgg243 : eAgg Go.Proofs.Tryz.prog 243 = some false := by kernel_rfl
@[simp] theorem tyStr243 : eStr Go.Proofs.Tryz.prog 243 = false := by kernel_rfl
@[simp] theorem tyZero243 : eZero Go.Proofs.Tryz.prog 243 = some [.nilFunc] := by kernel_rfl
@[simp] theorem tySz244 : eSz Go.Proofs.Tryz.prog 244 = some 1 := by kernel_rfl
@[simp] theorem tyAgg244 : eAgg Go.Proofs.Tryz.prog 244 = some false := by kernel_rfl
@[simp] theorem tyStr244 : eStr Go.Proofs.Tryz.prog 244 = false := by kernel_rfl
@[simp] theorem tyZero244 : eZero Go.Proofs.Tryz.prog 244 = some [.nilFunc] := by kernel_rfl
@[simp] theorem tySz245 : eSz Go.Proofs.Tryz.prog 245 = some 1 := by kernel_rfl
@[simp] theorem tyAgg245 : eAgg Go.Proofs.Tryz.prog 245 = some false := by kernel_rfl
@[simp] theorem tyStr245 : eStr Go.Proofs.Tryz.prog 245 = false := by kernel_rfl
@[simp] theorem tyZero245 : eZero Go.Proofs.Tryz.prog 245 = some [.nilFunc] := by kernel_rfl
@[simp] theorem tySz246 : eSz Go.Proofs.Tryz.prog 246 = some 1 := by kernel_rfl
@[simp] theorem tyAgg246 : eAgg Go.Proofs.Tryz.prog 246 = some false := by kernel_rfl
@[simp] theorem tyStr246 : eStr Go.Proofs.Tryz.prog 246 = false := by kernel_rfl
@[simp] theorem tyZero246 : eZero Go.Proofs.Tryz.prog 246 = some [.nilFunc] := by kernel_rfl
@[simp] theorem tySz247 : eSz Go.Proofs.Tryz.prog 247 = some 1 := by kernel_rfl
@[simp] theorem tyAgg247 : eAgg Go.Proofs.Tryz.prog 247 = some false := by kernel_rfl
@[simp] theorem tyStr247 : eStr Go.Proofs.Tryz.prog 247 = false := by kernel_rfl
@[simp] theorem tyZero247 : eZero Go.Proofs.Tryz.prog 247 = some [.nilFunc] := by kernel_rfl
@[simp] theorem tySz248 : eSz Go.Proofs.Tryz.prog 248 = some 1 := by kernel_rfl
@[simp] theorem tyAgg248 : eAgg Go.Proofs.Tryz.prog 248 = some false := by kernel_rfl
@[simp] theorem tyStr248 : eStr Go.Proofs.Tryz.prog 248 = false := by kernel_rfl
@[simp] theorem tyZero248 : eZero Go.Proofs.Tryz.prog 248 = some [.nilFunc] := by kernel_rfl
@[simp] theorem tySz249 : eSz Go.Proofs.Tryz.prog 249 = some 1 := by kernel_rfl
@[simp] theorem tyAgg249 : eAgg Go.Proofs.Tryz.prog 249 = some false := by kernel_rfl
@[simp] theorem tyStr249 : eStr Go.Proofs.Tryz.prog 249 = false := by kernel_rfl
@[simp] theorem tyZero249 : eZero Go.Proofs.Tryz.prog 249 = some [.nilFunc] := by kernel_rfl
@[simp] theorem tySz250 : eSz Go.Proofs.Tryz.prog 250 = some 1 := by kernel_rfl
@[simp] theorem tyAgg250 : eAgg Go.Proofs.Tryz.prog 250 = some false := by kernel_rfl
@[simp] theorem tyStr250 : eStr Go.Proofs.Tryz.prog 250 = false := by kernel_rfl
@[simp] theorem tyInt250 : eInt Go.Proofs.Tryz.prog 250 = some .u32 := by kernel_rfl
@[simp] theorem tyZero250 : eZero Go.Proofs.Tryz.prog 250 = some [.int .u32 0] := by kernel_rfl
@[simp] theorem tySz251 : eSz Go.Proofs.Tryz.prog 251 = some 1 := by kernel_rfl
@[simp] theorem tyAgg251 : eAgg Go.Proofs.Tryz.prog 251 = some false := by kernel_rfl
@[simp] theorem tyStr251 : eStr Go.Proofs.Tryz.prog 251 = false := by kernel_rfl
@[simp] theorem tySz252 : eSz Go.Proofs.Tryz.prog 252 = some 1 := by kernel_rfl
@[simp] theorem tyAgg252 : eAgg Go.Proofs.Tryz.prog 252 = some false := by kernel_rfl
@[simp] theorem tyStr252 : eStr Go.Proofs.Tryz.prog 252 = false := by kernel_rfl
@[simp] theorem tyZero252 : eZero Go.Proofs.Tryz.prog 252 = some [.nilFunc] := by kernel_rfl
@[simp] theorem tySz253 : eSz Go.Proofs.Tryz.prog 253 = some 1 := by kernel_rfl
@[simp] theorem tyAgg253 : eAgg Go.Proofs.Tryz.prog 253 = some false := by kernel_rfl
@[simp] theorem tyStr253 : eStr Go.Proofs.Tryz.prog 253 = false := by kernel_rfl
@[simp] theorem tyZero253 : eZero Go.Proofs.Tryz.prog 253 = some [.nilFunc] := by kernel_rfl
@[simp] theorem tySz254 : eSz Go.Proofs.Tryz.prog 254 = some 1 := by kernel_rfl
@[simp] theorem tyAgg254 : eAgg Go.Proofs.Tryz.prog 254 = some false := by kernel_rfl
@[simp] theorem tyStr254 : eStr Go.Proofs.Tryz.prog 254 = false := by kernel_rfl
@[simp] theorem tyInt254 : eInt Go.Proofs.Tryz.prog 254 = some .i64 := by kernel_rfl
@[simp] theorem tyZero254 : eZero Go.Proofs.Tryz.prog 254 = some [.int .i64 0] := by kernel_rfl
@[simp] theorem tySz255 : eSz Go.Proofs.Tryz.prog 255 = some 1 := by kernel_rfl
@[simp] theorem tyAgg255 : eAgg Go.Proofs.Tryz.prog 255 = some false := by kernel_rfl
@[simp] theorem tyStr255 : eStr Go.Proofs.Tryz.prog 255 = false := by kernel_rfl
@[simp] theorem tySz256 : eSz Go.Proofs.Tryz.prog 256 = some 1 := by kernel_rfl
@[simp] theorem tyAgg256 : eAgg Go.Proofs.Tryz.prog 256 = some false := by kernel_rfl
@[simp] theorem tyStr256 : eStr Go.Proofs.Tryz.prog 256 = false := by kernel_rfl
@[simp] theorem tyZero256 : eZero Go.Proofs.Tryz.prog 256 = some [.nilFunc] := by kernel_rfl
@[simp] theorem tySz257 : eSz Go.Proofs.Tryz.prog 257 = some 1 := by kernel_rfl
@[simp] theorem tyAgg257 : eAgg Go.Proofs.Tryz.prog 257 = some false := by kernel_rfl
@[simp] theorem tyStr257 : eStr Go.Proofs.Tryz.prog 257 = false := by kernel_rfl
@[simp] theorem tyPtr257 : ePtr Go.Proofs.Tryz.prog 257 = true := by kernel_rfl
@[simp] theorem tyZero257 : eZero Go.Proofs.Tryz.prog 257 = some [.pointer none] := by kernel_rfl
@[simp] theorem tySz258 : eSz Go.Proofs.Tryz.prog 258 = some 1 := by kernel_rfl
@[simp] theorem tyAgg258 : eAgg Go.Proofs.Tryz.prog 258 = some false := by kernel_rfl
@[simp] theorem tyStr258 : eStr Go.Proofs.Tryz.prog 258 = false := by kernel_rfl
@[simp] theorem tyZero258 : eZero Go.Proofs.Tryz.prog 258 = some [.nilFunc] := by kernel_rfl
@[simp] theorem tySz259 : eSz Go.Proofs.Tryz.prog 259 = some 1 := by kernel_rfl
@[simp] theorem tyAgg259 : eAgg Go.Proofs.Tryz.prog 259 = some false := by kernel_rfl
@[simp] theorem tyStr259 : eStr Go.Proofs.Tryz.prog 259 = false := by kernel_rfl
@[simp] theorem tyZero259 : eZero Go.Proofs.Tryz.prog 259 = some [.nilFunc] := by kernel_rfl
@[simp] theorem tySz260 : eSz Go.Proofs.Tryz.prog 260 = some 1 := by kernel_rfl
@[simp] theorem tyAgg260 : eAgg Go.Proofs.Tryz.prog 260 = some false := by kernel_rfl
@[simp] theorem tyStr260 : eStr Go.Proofs.Tryz.prog 260 = false := by kernel_rfl
@[simp] theorem tyZero260 : eZero Go.Proofs.Tryz.prog 260 = some [.nilFunc] := by kernel_rfl
@[simp] theorem tySz261 : eSz Go.Proofs.Tryz.prog 261 = some 20 := by kernel_rfl
@[simp] theorem tyAgg261 : eAgg Go.Proofs.Tryz.prog 261 = some true := by kernel_rfl
@[simp] theorem tyStr261 : eStr Go.Proofs.Tryz.prog 261 = false := by kernel_rfl
@[simp] theorem tyArr261 : eArr Go.Proofs.Tryz.prog 261 = some (239, 20, 1) := by kernel_rfl
@[simp] theorem tyZero261 : eZero Go.Proofs.Tryz.prog 261 = some [.int .u64 0, .int .u64 0, .int .u64 0, .int .u64 0, .int .u64 0, .int .u64 0, .int .u64 0, .int .u64 0, .int .u64 0, .int .u64 0, .int .u64 0, .int .u64 0, .int .u64 0, .int .u64 0, .int .u64 0, .int .u64 0, .int .u64 0, .int .u64 0, .int .u64 0, .int .u64 0] := by kernel_rfl
@[simp] theorem tySz262 : eSz Go.Proofs.Tryz.prog 262 = some 65 := by kernel_rfl
@[simp] theorem tyAgg262 : eAgg Go.Proofs.Tryz.prog 262 = some true := by kernel_rfl
@[simp] theorem tyStr262 : eStr Go.Proofs.Tryz.prog 262 = false := by kernel_rfl
@[simp] theorem tyArr262 : eArr Go.Proofs.Tryz.prog 262 = some (5, 65, 1) := by kernel_rfl
@[simp] theorem tySz263 : eSz Go.Proofs.Tryz.prog 263 = some 1 := by kernel_rfl
@[simp] theorem tyAgg263 : eAgg Go.Proofs.Tryz.prog 263 = some false := by kernel_rfl
@[simp] theorem tyStr263 : eStr Go.Proofs.Tryz.prog 263 = false := by kernel_rfl
@[simp] theorem tyZero263 : eZero Go.Proofs.Tryz.prog 263 = some [.nilFunc] := by kernel_rfl
@[simp] theorem tySz264 : eSz Go.Proofs.Tryz.prog 264 = some 1 := by kernel_rfl
@[simp] theorem tyAgg264 : eAgg Go.Proofs.Tryz.prog 264 = some false := by kernel_rfl
@[simp] theorem tyStr264 : eStr Go.Proofs.Tryz.prog 264 = false := by kernel_rfl
@[simp] theorem tyZero264 : eZero Go.Proofs.Tryz.prog 264 = some [.nilFunc] := by kernel_rfl
@[simp] theorem tySz265 : eSz Go.Proofs.Tryz.prog 265 = some 1 := by kernel_rfl
@[simp] theorem tyAgg265 : eAgg Go.Proofs.Tryz.prog 265 = some false := by kernel_rfl
@[simp] theorem tyStr265 : eStr Go.Proofs.Tryz.prog 265 = false := by kernel_rfl
@[simp] theorem tyZero265 : eZero Go.Proofs.Tryz.prog 265 = some [.nilFunc] := by kernel_rfl
@[simp] theorem tySz266 : eSz Go.Proofs.Tryz.prog 266 = some 1 := by kernel_rfl
@[simp] theorem tyAgg266 : eAgg Go.Proofs.Tryz.prog 266 = some false := by kernel_rfl
@[simp] theorem tyStr266 : eStr Go.Proofs.Tryz.prog 266 = false := by kernel_rfl
@[simp] theorem tyZero266 : eZero Go.Proofs.Tryz.prog 266 = some [.nilFunc] := by kernel_rfl
@[simp] theorem tySz267 : eSz Go.Proofs.Tryz.prog 267 = some 256 := by kernel_rfl
@[simp] theorem tyAgg267 : eAgg Go.Proofs.Tryz.prog 267 = some true := by kernel_rfl
@[simp] theorem tyStr267 : eStr Go.Proofs.Tryz.prog 267 = false := by kernel_rfl
@[simp] theorem tyArr267 : eArr Go.Proofs.Tryz.prog 267 = some (5, 256, 1) := by kernel_rfl
@[simp] theorem tySz268 : eSz Go.Proofs.Tryz.prog 268 = some 2 := by kernel_rfl
@[simp] theorem tyAgg268 : eAgg Go.Proofs.Tryz.prog 268 = some true := by kernel_rfl
@[simp] theorem tyStr268 : eStr Go.Proofs.Tryz.prog 268 = false := by kernel_rfl
@[simp] theorem tyFld268_0 : eFld Go.Proofs.Tryz.prog 268 0 = some (5, 0) := by kernel_rfl
@[simp] theorem tyFld268_1 : eFld Go.Proofs.Tryz.prog 268 1 = some (5, 1) := by kernel_rfl
@[simp] theorem tyPl268 : ePl Go.Proofs.Tryz.prog 268 = some [(0, 1), (1, 1)] := by kernel_rfl
@[simp] theorem tyZero268 : eZero Go.Proofs.Tryz.prog 268 = some [.int .u8 0, .int .u8 0] := by kernel_rfl
@[simp] theorem tySz269 : eSz Go.Proofs.Tryz.prog 269 = some 2 := by kernel_rfl
@[simp] theorem tyAgg269 : eAgg Go.Proofs.Tryz.prog 269 = some true := by kernel_rfl
@[simp] theorem tyStr269 : eStr Go.Proofs.Tryz.prog 269 = false := by kernel_rfl
@[simp] theorem tyFld269_0 : eFld Go.Proofs.Tryz.prog 269 0 = some (5, 0) := by kernel_rfl
@[simp] theorem tyFld269_1 : eFld Go.Proofs.Tryz.prog 269 1 = some (5, 1) := by kernel_rfl
@[simp] theorem tyPl269 : ePl Go.Proofs.Tryz.prog 269 = some [(0, 1), (1, 1)] := by kernel_rfl
@[simp] theorem tyZero269 : eZero Go.Proofs.Tryz.prog 269 = some [.int .u8 0, .int .u8 0] := by kernel_rfl
@[simp] theorem tySz270 : eSz Go.Proofs.Tryz.prog 270 = some 32 := by kernel_rfl
@[simp] theorem tyAgg270 : eAgg Go.Proofs.Tryz.prog 270 = some true := by kernel_rfl
@[simp] theorem tyStr270 : eStr Go.Proofs.Tryz.prog 270 = false := by kernel_rfl
@[simp] theorem tyArr270 : eArr Go.Proofs.Tryz.prog 270 = some (269, 16, 2) := by kernel_rfl
@[simp] theorem tyPl270 : ePl Go.Proofs.Tryz.prog 270 = some [(0, 2), (2, 2), (4, 2), (6, 2), (8, 2), (10, 2), (12, 2), (14, 2), (16, 2), (18, 2), (20, 2), (22, 2), (24, 2), (26, 2), (28, 2), (30, 2)] := by kernel_rfl
@[simp] theorem tyZero270 : eZero Go.Proofs.Tryz.prog 270 = some [.int .u8 0, .int .u8 0, .int .u8 0, .int .u8 0, .int .u8 0, .int .u8 0, .int .u8 0, .int .u8 0, .int .u8 0, .int .u8 0, .int .u8 0, .int .u8 0, .int .u8 0, .int .u8 0, .int .u8 0, .int .u8 0, .int .u8 0, .int .u8 0, .int .u8 0, .int .u8 0, .int .u8 0, .int .u8 0, .int .u8 0, .int .u8 0, .int .u8 0, .int .u8 0, .int .u8 0, .int .u8 0, .int .u8 0, .int .u8 0, .int .u8 0, .int .u8 0] := by kernel_rfl
@[simp] theorem tySz271 : eSz Go.Proofs.Tryz.prog 271 = some 1 := by kernel_rfl
@[simp] theorem tyAgg271 : eAgg Go.Proofs.Tryz.prog 271 = some false := by kernel_rfl
@[simp] theorem tyStr271 : eStr Go.Proofs.Tryz.prog 271 = false := by kernel_rfl
@[simp] theorem tyZero271 : eZero Go.Proofs.Tryz.prog 271 = some [.nilFunc] := by kernel_rfl
@[simp] theorem tySz272 : eSz Go.Proofs.Tryz.prog 272 = some 1 := by kernel_rfl
@[simp] theorem tyAgg272 : eAgg Go.Proofs.Tryz.prog 272 = some false := by kernel_rfl
@[simp] theorem tyStr272 : eStr Go.Proofs.Tryz.prog 272 = false := by kernel_rfl
@[simp] theorem tySz273 : eSz Go.Proofs.Tryz.prog 273 = some 1 := by kernel_rfl
@[simp] theorem tyAgg273 : eAgg Go.Proofs.Tryz.prog 273 = some false := by kernel_rfl
@[simp] theorem tyStr273 : eStr Go.Proofs.Tryz.prog 273 = false := by kernel_rfl
@[simp] theorem tyZero273 : eZero Go.Proofs.Tryz.prog 273 = some [.nilFunc] := by kernel_rfl
@[simp] theorem tySz274 : eSz Go.Proofs.Tryz.prog 274 = some 3 := by kernel_rfl
@[simp] theorem tyAgg274 : eAgg Go.Proofs.Tryz.prog 274 = some true := by kernel_rfl
@[simp] theorem tyStr274 : eStr Go.Proofs.Tryz.prog 274 = false := by kernel_rfl
@[simp] theorem tyFld274_0 : eFld Go.Proofs.Tryz.prog 274 0 = some (9, 0) := by kernel_rfl
@[simp] theorem tyFld274_1 : eFld Go.Proofs.Tryz.prog 274 1 = some (9, 1) := by kernel_rfl
@[simp] theorem tyFld274_2 : eFld Go.Proofs.Tryz.prog 274 2 = some (127, 2) := by kernel_rfl
@[simp] theorem tyPl274 : ePl Go.Proofs.Tryz.prog 274 = some [(0, 1), (1, 1), (2, 1)] := by kernel_rfl
@[simp] theorem tyZero274 : eZero Go.Proofs.Tryz.prog 274 = some [.string .empty, .string .empty, .nilIface] := by kernel_rfl
@[simp] theorem tySz275 : eSz Go.Proofs.Tryz.prog 275 = some 3 := by kernel_rfl
@[simp] theorem tyAgg275 : eAgg Go.Proofs.Tryz.prog 275 = some true := by kernel_rfl
@[simp] theorem tyStr275 : eStr Go.Proofs.Tryz.prog 275 = false := by kernel_rfl
@[simp] theorem tyFld275_0 : eFld Go.Proofs.Tryz.prog 275 0 = some (9, 0) := by kernel_rfl
@[simp] theorem tyFld275_1 : eFld Go.Proofs.Tryz.prog 275 1 = some (9, 1) := by kernel_rfl
@[simp] theorem tyFld275_2 : eFld Go.Proofs.Tryz.prog 275 2 = some (127, 2) := by kernel_rfl
@[simp] theorem tyPl275 : ePl Go.Proofs.Tryz.prog 275 = some [(0, 1), (1, 1), (2, 1)] := by kernel_rfl
@[simp] theorem tyZero275 : eZero Go.Proofs.Tryz.prog 275 = some [.string .empty, .string .empty, .nilIface] := by kernel_rfl
@[simp] theorem tySz276 : eSz Go.Proofs.Tryz.prog 276 = some 1 := by kernel_rfl
@[simp] theorem tyAgg276 : eAgg Go.Proofs.Tryz.prog 276 = some false := by kernel_rfl
@[simp] theorem tyStr276 : eStr Go.Proofs.Tryz.prog 276 = false := by kernel_rfl
@[simp] theorem tyZero276 : eZero Go.Proofs.Tryz.prog 276 = some [.nilFunc] := by kernel_rfl
@[simp] theorem tySz277 : eSz Go.Proofs.Tryz.prog 277 = some 1 := by kernel_rfl
@[simp] theorem tyAgg277 : eAgg Go.Proofs.Tryz.prog 277 = some false := by kernel_rfl
@[simp] theorem tyStr277 : eStr Go.Proofs.Tryz.prog 277 = false := by kernel_rfl
@[simp] theorem tyZero277 : eZero Go.Proofs.Tryz.prog 277 = some [.nilFunc] := by kernel_rfl
@[simp] theorem tySz278 : eSz Go.Proofs.Tryz.prog 278 = some 1 := by kernel_rfl
@[simp] theorem tyAgg278 : eAgg Go.Proofs.Tryz.prog 278 = some false := by kernel_rfl
@[simp] theorem tyStr278 : eStr Go.Proofs.Tryz.prog 278 = false := by kernel_rfl
@[simp] theorem tyZero278 : eZero Go.Proofs.Tryz.prog 278 = some [.nilFunc] := by kernel_rfl
@[simp] theorem tySz279 : eSz Go.Proofs.Tryz.prog 279 = some 1 := by kernel_rfl
@[simp] theorem tyAgg279 : eAgg Go.Proofs.Tryz.prog 279 = some false := by kernel_rfl
@[simp] theorem tyStr279 : eStr Go.Proofs.Tryz.prog 279 = false := by kernel_rfl
@[simp] theorem tyZero279 : eZero Go.Proofs.Tryz.prog 279 = some [.nilFunc] := by kernel_rfl
@[simp] theorem tySz280 : eSz Go.Proofs.Tryz.prog 280 = some 1 := by kernel_rfl
@[simp] theorem tyAgg280 : eAgg Go.Proofs.Tryz.prog 280 = some false := by kernel_rfl
@[simp] theorem tyStr280 : eStr Go.Proofs.Tryz.prog 280 = false := by kernel_rfl
@[simp] theorem tyInt280 : eInt Go.Proofs.Tryz.prog 280 = some .i64 := by kernel_rfl
@[simp] theorem tyZero280 : eZero Go.Proofs.Tryz.prog 280 = some [.int .i64 0] := by kernel_rfl
@[simp] theorem tySz281 : eSz Go.Proofs.Tryz.prog 281 = some 1 := by kernel_rfl
@[simp] theorem tyAgg281 : eAgg Go.Proofs.Tryz.prog 281 = some false := by kernel_rfl
@[simp] theorem tyStr281 : eStr Go.Proofs.Tryz.prog 281 = false := by kernel_rfl
@[simp] theorem tySz282 : eSz Go.Proofs.Tryz.prog 282 = some 1 := by kernel_rfl
@[simp] theorem tyAgg282 : eAgg Go.Proofs.Tryz.prog 282 = some false := by kernel_rfl
@[simp] theorem tyStr282 : eStr Go.Proofs.Tryz.prog 282 = false := by kernel_rfl
@[simp] theorem tyZero282 : eZero Go.Proofs.Tryz.prog 282 = some [.nilFunc] := by kernel_rfl
@[simp] theorem tySz283 : eSz Go.Proofs.Tryz.prog 283 = some 1 := by kernel_rfl
@[simp] theorem tyAgg283 : eAgg Go.Proofs.Tryz.prog 283 = some false := by kernel_rfl
@[simp] theorem tyStr283 : eStr Go.Proofs.Tryz.prog 283 = false := by kernel_rfl
@[simp] theorem tyZero283 : eZero Go.Proofs.Tryz.prog 283 = some [.nilFunc] := by kernel_rfl
@[simp] theorem tySz284 : eSz Go.Proofs.Tryz.prog 284 = some 1 := by kernel_rfl
@[simp] theorem tyAgg284 : eAgg Go.Proofs.Tryz.prog 284 = some false := by kernel_rfl
@[simp] theorem tyStr284 : eStr Go.Proofs.Tryz.prog 284 = false := by kernel_rfl
@[simp] theorem tyZero284 : eZero Go.Proofs.Tryz.prog 284 = some [.nilFunc] := by kernel_rfl
@[simp] theorem tySz285 : eSz Go.Proofs.Tryz.prog 285 = some 1 := by kernel_rfl
@[simp] theorem tyAgg285 : eAgg Go.Proofs.Tryz.prog 285 = some false := by kernel_rfl
@[simp] theorem tyStr285 : eStr Go.Proofs.Tryz.prog 285 = false := by kernel_rfl
@[simp] theorem tyZero285 : eZero Go.Proofs.Tryz.prog 285 = some [.nilFunc] := by kernel_rfl
@[simp] theorem tySz286 : eSz Go.Proofs.Tryz.prog 286 = some 1 := by kernel_rfl
@[simp] theorem tyAgg286 : eAgg Go.Proofs.Tryz.prog 286 = some false := by kernel_rfl
@[simp] theorem tyStr286 : eStr Go.Proofs.Tryz.prog 286 = false := by kernel_rfl
@[simp] theorem tyZero286 : eZero Go.Proofs.Tryz.prog 286 = some [.nilFunc] := by kernel_rfl
@[simp] theorem tySz287 : eSz Go.Proofs.Tryz.prog 287 = some 1 := by kernel_rfl
@[simp] theorem tyAgg287 : eAgg Go.Proofs.Tryz.prog 287 = some false := by kernel_rfl
@[simp] theorem tyStr287 : eStr Go.Proofs.Tryz.prog 287 = false := by kernel_rfl
@[simp] theorem tyPtr287 : ePtr Go.Proofs.Tryz.prog 287 = true := by kernel_rfl
@[simp] theorem tyZero287 : eZero Go.Proofs.Tryz.prog 287 = some [.pointer none] := by kernel_rfl
@[simp] theorem tySz288 : eSz Go.Proofs.Tryz.prog 288 = some 1 := by kernel_rfl
@[simp] theorem tyAgg288 : eAgg Go.Proofs.Tryz.prog 288 = some true := by kernel_rfl
@[simp] theorem tyStr288 : eStr Go.Proofs.Tryz.prog 288 = false := by kernel_rfl
@[simp] theorem tyFld288_0 : eFld Go.Proofs.Tryz.prog 288 0 = some (9, 0) := by kernel_rfl
@[simp] theorem tyPl288 : ePl Go.Proofs.Tryz.prog 288 = some [(0, 1)] := by kernel_rfl
@[simp] theorem tyZero288 : eZero Go.Proofs.Tryz.prog 288 = some [.string .empty] := by kernel_rfl
@[simp] theorem tySz289 : eSz Go.Proofs.Tryz.prog 289 = some 1 := by kernel_rfl
@[simp] theorem tyAgg289 : eAgg Go.Proofs.Tryz.prog 289 = some true := by kernel_rfl
@[simp] theorem tyStr289 : eStr Go.Proofs.Tryz.prog 289 = false := by kernel_rfl
@[simp] theorem tyFld289_0 : eFld Go.Proofs.Tryz.prog 289 0 = some (9, 0) := by kernel_rfl
@[simp] theorem tyPl289 : ePl Go.Proofs.Tryz.prog 289 = some [(0, 1)] := by kernel_rfl
@[simp] theorem tyZero289 : eZero Go.Proofs.Tryz.prog 289 = some [.string .empty] := by kernel_rfl
@[simp] theorem tySz290 : eSz Go.Proofs.Tryz.prog 290 = some 32 := by kernel_rfl
@[simp] theorem tyAgg290 : eAgg Go.Proofs.Tryz.prog 290 = some true := by kernel_rfl
@[simp] theorem tyStr290 : eStr Go.Proofs.Tryz.prog 290 = false := by kernel_rfl
@[simp] theorem tyArr290 : eArr Go.Proofs.Tryz.prog 290 = some (5, 32, 1) := by kernel_rfl
@[simp] theorem tyZero290 : eZero Go.Proofs.Tryz.prog 290 = some [.int .u8 0, .int .u8 0, .int .u8 0, .int .u8 0, .int .u8 0, .int .u8 0, .int .u8 0, .int .u8 0, .int .u8 0, .int .u8 0, .int .u8 0, .int .u8 0, .int .u8 0, .int .u8 0, .int .u8 0, .int .u8 0, .int .u8 0, .int .u8 0, .int .u8 0, .int .u8 0, .int .u8 0, .int .u8 0, .int .u8 0, .int .u8 0, .int .u8 0, .int .u8 0, .int .u8 0, .int .u8 0, .int .u8 0, .int .u8 0, .int .u8 0, .int .u8 0] := by kernel_rfl
@[simp] theorem tySz291 : eSz Go.Proofs.Tryz.prog 291 = some 64 := by kernel_rfl
@[simp] theorem tyAgg291 : eAgg Go.Proofs.Tryz.prog 291 = some true := by kernel_rfl
@[simp] theorem tyStr291 : eStr Go.Proofs.Tryz.prog 291 = false := by kernel_rfl
@[simp] theorem tyArr291 : eArr Go.Proofs.Tryz.prog 291 = some (5, 64, 1) := by kernel_rfl
@[simp] theorem tySz292 : eSz Go.Proofs.Tryz.prog 292 = some 1 := by kernel_rfl
@[simp] theorem tyAgg292 : eAgg Go.Proofs.Tryz.prog 292 = some false := by kernel_rfl
@[simp] theorem tyStr292 : eStr Go.Proofs.Tryz.prog 292 = false := by kernel_rfl
@[simp] theorem tyInt292 : eInt Go.Proofs.Tryz.prog 292 = some .u64 := by kernel_rfl
@[simp] theorem tyZero292 : eZero Go.Proofs.Tryz.prog 292 = some [.int .u64 0] := by kernel_rfl
@[simp] theorem tySz293 : eSz Go.Proofs.Tryz.prog 293 = some 1 := by kernel_rfl
@[simp] theorem tyAgg293 : eAgg Go.Proofs.Tryz.prog 293 = some false := by kernel_rfl
@[simp] theorem tyStr293 : eStr Go.Proofs.Tryz.prog 293 = false := by kernel_rfl
@[simp] theorem tyZero293 : eZero Go.Proofs.Tryz.prog 293 = some [.nilFunc] := by kernel_rfl
@[simp] theorem tySz294 : eSz Go.Proofs.Tryz.prog 294 = some 1 := by kernel_rfl
@[simp] theorem tyAgg294 : eAgg Go.Proofs.Tryz.prog 294 = some false := by kernel_rfl
@[simp] theorem tyStr294 : eStr Go.Proofs.Tryz.prog 294 = false := by kernel_rfl
@[simp] theorem tyZero294 : eZero Go.Proofs.Tryz.prog 294 = some [.nilFunc] := by kernel_rfl
@[simp] theorem tySz295 : eSz Go.Proofs.Tryz.prog 295 = some 1 := by kernel_rfl
@[simp] theorem tyAgg295 : eAgg Go.Proofs.Tryz.prog 295 = some false := by kernel_rfl
@[simp] theorem tyStr295 : eStr Go.Proofs.Tryz.prog 295 = false := by kernel_rfl
@[simp] theorem tyZero295 : eZero Go.Proofs.Tryz.prog 295 = some [.nilFunc] := by kernel_rfl
@[simp] theorem tySz296 : eSz Go.Proofs.Tryz.prog 296 = some 1 := by kernel_rfl
@[simp] theorem tyAgg296 : eAgg Go.Proofs.Tryz.prog 296 = some false := by kernel_rfl
@[simp] theorem tyStr296 : eStr Go.Proofs.Tryz.prog 296 = false := by kernel_rfl
@[simp] theorem tyPtr296 : ePtr Go.Proofs.Tryz.prog 296 = true := by kernel_rfl
@[simp] theorem tyZero296 : eZero Go.Proofs.Tryz.prog 296 = some [.pointer none] := by kernel_rfl
@[simp] theorem tySz297 : eSz Go.Proofs.Tryz.prog 297 = some 1 := by kernel_rfl
@[simp] theorem tyAgg297 : eAgg Go.Proofs.Tryz.prog 297 = some false := by kernel_rfl
@[simp] theorem tyStr297 : eStr Go.Proofs.Tryz.prog 297 = false := by kernel_rfl
@[simp] theorem tyZero297 : eZero Go.Proofs.Tryz.prog 297 = some [.nilFunc] := by kernel_rfl
@[simp] theorem tySz298 : eSz Go.Proofs.Tryz.prog 298 = some 1 := by kernel_rfl
@[simp] theorem tyAgg298 : eAgg Go.Proofs.Tryz.prog 298 = some false := by kernel_rfl
@[simp] theorem tyStr298 : eStr Go.Proofs.Tryz.prog 298 = false := by kernel_rfl
@[simp] theorem tyPtr298 : ePtr Go.Proofs.Tryz.prog 298 = true := by kernel_rfl
@[simp] theorem tyZero298 : eZero Go.Proofs.Tryz.prog 298 = some [.pointer none] := by kernel_rfl
@[simp] theorem tySz299 : eSz Go.Proofs.Tryz.prog 299 = some 1 := by kernel_rfl
@[simp] theorem tyAgg299 : eAgg Go.Proofs.Tryz.prog 299 = some false := by kernel_rfl
@[simp] theorem tyStr299 : eStr Go.Proofs.Tryz.prog 299 = false := by kernel_rfl
@[simp] theorem tyZero299 : eZero Go.Proofs.Tryz.prog 299 = some [.nilFunc] := by kernel_rfl
@[simp] theorem tySz300 : eSz Go.Proofs.Tryz.prog 300 = some 4 := by kernel_rfl
@[simp] theorem tyAgg300 : eAgg Go.Proofs.Tryz.prog 300 = some true := by kernel_rfl
@[simp] theorem tyStr300 : eStr Go.Proofs.Tryz.prog 300 = false := by kernel_rfl
@[simp] theorem tyFld300_0 : eFld Go.Proofs.Tryz.prog 300 0 = some (17, 0) := by kernel_rfl
@[simp] theorem tyFld300_1 : eFld Go.Proofs.Tryz.prog 300 1 = some (17, 1) := by kernel_rfl
@[simp] theorem tyFld300_2 : eFld Go.Proofs.Tryz.prog 300 2 = some (17, 2) := by kernel_rfl
@[simp] theorem tyFld300_3 : eFld Go.Proofs.Tryz.prog 300 3 = some (9, 3) := by kernel_rfl
@[simp] theorem tyPl300 : ePl Go.Proofs.Tryz.prog 300 = some [(0, 1), (1, 1), (2, 1), (3, 1)] := by kernel_rfl
@[simp] theorem tyZero300 : eZero Go.Proofs.Tryz.prog 300 = some [.pointer none, .pointer none, .pointer none, .string .empty] := by kernel_rfl
@[simp] theorem tySz301 : eSz Go.Proofs.Tryz.prog 301 = some 4 := by kernel_rfl
@[simp] theorem tyAgg301 : eAgg Go.Proofs.Tryz.prog 301 = some true := by kernel_rfl
@[simp] theorem tyStr301 : eStr Go.Proofs.Tryz.prog 301 = false := by kernel_rfl
@[simp] theorem tyFld301_0 : eFld Go.Proofs.Tryz.prog 301 0 = some (17, 0) := by kernel_rfl
@[simp] theorem tyFld301_1 : eFld Go.Proofs.Tryz.prog 301 1 = some (17, 1) := by kernel_rfl
@[simp] theorem tyFld301_2 : eFld Go.Proofs.Tryz.prog 301 2 = some (17, 2) := by kernel_rfl
@[simp] theorem tyFld301_3 : eFld Go.Proofs.Tryz.prog 301 3 = some (9, 3) := by kernel_rfl
@[simp] theorem tyPl301 : ePl Go.Proofs.Tryz.prog 301 = some [(0, 1), (1, 1), (2, 1), (3, 1)] := by kernel_rfl
@[simp] theorem tyZero301 : eZero Go.Proofs.Tryz.prog 301 = some [.pointer none, .pointer none, .pointer none, .string .empty] := by kernel_rfl
@[simp] theorem tySz302 : eSz Go.Proofs.Tryz.prog 302 = some 0 := by kernel_rfl
@[simp] theorem tyAgg302 : eAgg Go.Proofs.Tryz.prog 302 = some true := by kernel_rfl
@[simp] theorem tyStr302 : eStr Go.Proofs.Tryz.prog 302 = false := by kernel_rfl
@[simp] theorem tyArr302 : eArr Go.Proofs.Tryz.prog 302 = some (16, 0, 1) := by kernel_rfl
@[simp] theorem tyPl302 : ePl Go.Proofs.Tryz.prog 302 = some [] := by kernel_rfl
@[simp] theorem tyZero302 : eZero Go.Proofs.Tryz.prog 302 = some [] := by kernel_rfl
@[simp] theorem tySz303 : eSz Go.Proofs.Tryz.prog 303 = some 0 := by kernel_rfl
@[simp] theorem tyAgg303 : eAgg Go.Proofs.Tryz.prog 303 = some true := by kernel_rfl
@[simp] theorem tyStr303 : eStr Go.Proofs.Tryz.prog 303 = false := by kernel_rfl
@[simp] theorem tyPl303 : ePl Go.Proofs.Tryz.prog 303 = some [(0, 0)] := by kernel_rfl
@[simp] theorem tyZero303 : eZero Go.Proofs.Tryz.prog 303 = some [] := by kernel_rfl
@[simp] theorem tySz304 : eSz Go.Proofs.Tryz.prog 304 = some 0 := by kernel_rfl
@[simp] theorem tyAgg304 : eAgg Go.Proofs.Tryz.prog 304 = some true := by kernel_rfl
@[simp] theorem tyStr304 : eStr Go.Proofs.Tryz.prog 304 = false := by kernel_rfl
@[simp] theorem tyPl304 : ePl Go.Proofs.Tryz.prog 304 = some [(0, 0)] := by kernel_rfl
@[simp] theorem tyZero304 : eZero Go.Proofs.Tryz.prog 304 = some [] := by kernel_rfl
@[simp] theorem tySz305 : eSz Go.Proofs.Tryz.prog 305 = some 1 := by kernel_rfl
@[simp] theorem tyAgg305 : eAgg Go.Proofs.Tryz.prog 305 = some false := by kernel_rfl
@[simp] theorem tyStr305 : eStr Go.Proofs.Tryz.prog 305 = false := by kernel_rfl
@[simp] theorem tyInt305 : eInt Go.Proofs.Tryz.prog 305 = some .u8 := by kernel_rfl
@[simp] theorem tyZero305 : eZero Go.Proofs.Tryz.prog 305 = some [.int .u8 0] := by kernel_rfl
@[simp] theorem tySz306 : eSz Go.Proofs.Tryz.prog 306 = some 1 := by kernel_rfl
@[simp] theorem tyAgg306 : eAgg Go.Proofs.Tryz.prog 306 = some false := by kernel_rfl
@[simp] theorem tyStr306 : eStr Go.Proofs.Tryz.prog 306 = false := by kernel_rfl
@[simp] theorem tyInt306 : eInt Go.Proofs.Tryz.prog 306 = some .u8 := by kernel_rfl
@[simp] theorem tyZero306 : eZero Go.Proofs.Tryz.prog 306 = some [.int .u8 0] := by kernel_rfl
@[simp] theorem tySz307 : eSz Go.Proofs.Tryz.prog 307 = some 1 := by kernel_rfl
@[simp] theorem tyAgg307 : eAgg Go.Proofs.Tryz.prog 307 = some false := by kernel_rfl
@[simp] theorem tyStr307 : eStr Go.Proofs.Tryz.prog 307 = false := by kernel_rfl
@[simp] theorem tyZero307 : eZero Go.Proofs.Tryz.prog 307 = some [.nilFunc] := by kernel_rfl
@[simp] theorem tySz308 : eSz Go.Proofs.Tryz.prog 308 = some 1 := by kernel_rfl
@[simp] theorem tyAgg308 : eAgg Go.Proofs.Tryz.prog 308 = some false := by kernel_rfl
@[simp] theorem tyStr308 : eStr Go.Proofs.Tryz.prog 308 = false := by kernel_rfl
@[simp] theorem tyInt308 : eInt Go.Proofs.Tryz.prog 308 = some .i32 := by kernel_rfl
@[simp] theorem tyZero308 : eZero Go.Proofs.Tryz.prog 308 = some [.int .i32 0] := by kernel_rfl
@[simp] theorem tySz309 : eSz Go.Proofs.Tryz.prog 309 = some 1 := by kernel_rfl
@[simp] theorem tyAgg309 : eAgg Go.Proofs.Tryz.prog 309 = some false := by kernel_rfl
@[simp] theorem tyStr309 : eStr Go.Proofs.Tryz.prog 309 = false := by kernel_rfl
@[simp] theorem tyInt309 : eInt Go.Proofs.Tryz.prog 309 = some .i32 := by kernel_rfl
@[simp] theorem tyZero309 : eZero Go.Proofs.Tryz.prog 309 = some [.int .i32 0] := by kernel_rfl
@[simp] theorem tySz310 : eSz Go.Proofs.Tryz.prog 310 = some 11 := by kernel_rfl
@[simp] theorem tyAgg310 : eAgg Go.Proofs.Tryz.prog 310 = some true := by kernel_rfl
@[simp] theorem tyStr310 : eStr Go.Proofs.Tryz.prog 310 = false := by kernel_rfl
@[simp] theorem tyFld310_0 : eFld Go.Proofs.Tryz.prog 310 0 = some (12, 0) := by kernel_rfl
@[simp] theorem tyFld310_1 : eFld Go.Proofs.Tryz.prog 310 1 = some (12, 1) := by kernel_rfl
@[simp] theorem tyFld310_2 : eFld Go.Proofs.Tryz.prog 310 2 = some (250, 2) := by kernel_rfl
@[simp] theorem tyFld310_3 : eFld Go.Proofs.Tryz.prog 310 3 = some (305, 3) := by kernel_rfl
@[simp] theorem tyFld310_4 : eFld Go.Proofs.Tryz.prog 310 4 = some (5, 4) := by kernel_rfl
@[simp] theorem tyFld310_5 : eFld Go.Proofs.Tryz.prog 310 5 = some (5, 5) := by kernel_rfl
@[simp] theorem tyFld310_6 : eFld Go.Proofs.Tryz.prog 310 6 = some (306, 6) := by kernel_rfl
@[simp] theorem tyFld310_7 : eFld Go.Proofs.Tryz.prog 310 7 = some (307, 7) := by kernel_rfl
@[simp] theorem tyFld310_8 : eFld Go.Proofs.Tryz.prog 310 8 = some (180, 8) := by kernel_rfl
@[simp] theorem tyFld310_9 : eFld Go.Proofs.Tryz.prog 310 9 = some (308, 9) := by kernel_rfl
@[simp] theorem tyFld310_10 : eFld Go.Proofs.Tryz.prog 310 10 = some (309, 10) := by kernel_rfl
@[simp] theorem tyPl310 : ePl Go.Proofs.Tryz.prog 310 = some [(0, 1), (1, 1), (2, 1), (3, 1), (4, 1), (5, 1), (6, 1), (7, 1), (8, 1), (9, 1), (10, 1)] := by kernel_rfl
@[simp] theorem tyZero310 : eZero Go.Proofs.Tryz.prog 310 = some [.int .u64 0, .int .u64 0, .int .u32 0, .int .u8 0, .int .u8 0, .int .u8 0, .int .u8 0, .nilFunc, .pointer none, .int .i32 0, .int .i32 0] := by kernel_rfl
@[simp] theorem tySz311 : eSz Go.Proofs.Tryz.prog 311 = some 11 := by kernel_rfl
@[simp] theorem tyAgg311 : eAgg Go.Proofs.Tryz.prog 311 = some true := by kernel_rfl
@[simp] theorem tyStr311 : eStr Go.Proofs.Tryz.prog 311 = false := by kernel_rfl
@[simp] theorem tyFld311_0 : eFld Go.Proofs.Tryz.prog 311 0 = some (12, 0) := by kernel_rfl
@[simp] theorem tyFld311_1 : eFld Go.Proofs.Tryz.prog 311 1 = some (12, 1) := by kernel_rfl
@[simp] theorem tyFld311_2 : eFld Go.Proofs.Tryz.prog 311 2 = some (250, 2) := by kernel_rfl
@[simp] theorem tyFld311_3 : eFld Go.Proofs.Tryz.prog 311 3 = some (305, 3) := by kernel_rfl
@[simp] theorem tyFld311_4 : eFld Go.Proofs.Tryz.prog 311 4 = some (5, 4) := by kernel_rfl
@[simp] theorem tyFld311_5 : eFld Go.Proofs.Tryz.prog 311 5 = some (5, 5) := by kernel_rfl
@[simp] theorem tyFld311_6 : eFld Go.Proofs.Tryz.prog 311 6 = some (306, 6) := by kernel_rfl
@[simp] theorem tyFld311_7 : eFld Go.Proofs.Tryz.prog 311 7 = some (307, 7) := by kernel_rfl
@[simp] theorem tyFld311_8 : eFld Go.Proofs.Tryz.prog 311 8 = some (180, 8) := by kernel_rfl
@[simp] theorem tyFld311_9 : eFld Go.Proofs.Tryz.prog 311 9 = some (308, 9) := by kernel_rfl
@[simp] theorem tyFld311_10 : eFld Go.Proofs.Tryz.prog 311 10 = some (309, 10) := by kernel_rfl
@[simp] theorem tyPl311 : ePl Go.Proofs.Tryz.prog 311 = some [(0, 1), (1, 1), (2, 1), (3, 1), (4, 1), (5, 1), (6, 1), (7, 1), (8, 1), (9, 1), (10, 1)] := by kernel_rfl
@[simp] theorem tyZero311 : eZero Go.Proofs.Tryz.prog 311 = some [.int .u64 0, .int .u64 0, .int .u32 0, .int .u8 0, .int .u8 0, .int .u8 0, .int .u8 0, .nilFunc, .pointer none, .int .i32 0, .int .i32 0] := by kernel_rfl
@[simp] theorem tyEq34 : eEq Go.Proofs.Tryz.prog 34 = some [1, 0, 0] := by kernel_rfl
@[simp] theorem tyEq35 : eEq Go.Proofs.Tryz.prog 35 = some [1, 0, 0] := by kernel_rfl
@[simp] theorem tyEq40 : eEq Go.Proofs.Tryz.prog 40 = some [0, 0, 0, 0, 0] := by kernel_rfl
@[simp] theorem tyEq41 : eEq Go.Proofs.Tryz.prog 41 = some [0, 0, 0, 0, 0] := by kernel_rfl
@[simp] theorem tyEq80 : eEq Go.Proofs.Tryz.prog 80 = some [0, 2] := by kernel_rfl
@[simp] theorem tyEq81 : eEq Go.Proofs.Tryz.prog 81 = some [0, 2] := by kernel_rfl
@[simp] theorem tyEq93 : eEq Go.Proofs.Tryz.prog 93 = some [1, 1, 1, 1, 1, 2, 1, 2] := by kernel_rfl
@[simp] theorem tyEq94 : eEq Go.Proofs.Tryz.prog 94 = some [1, 1, 1, 1, 1, 2, 1, 2] := by kernel_rfl
@[simp] theorem tyEq105 : eEq Go.Proofs.Tryz.prog 105 = some [0, 0] := by kernel_rfl
@[simp] theorem tyEq106 : eEq Go.Proofs.Tryz.prog 106 = some [0, 0] := by kernel_rfl
@[simp] theorem tyEq112 : eEq Go.Proofs.Tryz.prog 112 = some [1, 0] := by kernel_rfl
@[simp] theorem tyEq113 : eEq Go.Proofs.Tryz.prog 113 = some [1, 0] := by kernel_rfl
@[simp] theorem tyEq114 : eEq Go.Proofs.Tryz.prog 114 = some [1, 0, 0] := by kernel_rfl
@[simp] theorem tyEq115 : eEq Go.Proofs.Tryz.prog 115 = some [1, 0, 0] := by kernel_rfl
@[simp] theorem tyEq188 : eEq Go.Proofs.Tryz.prog 188 = some [0, 1, 2] := by kernel_rfl
@[simp] theorem tyEq189 : eEq Go.Proofs.Tryz.prog 189 = some [0, 1, 2] := by kernel_rfl
@[simp] theorem tyEq225 : eEq Go.Proofs.Tryz.prog 225 = some [0, 1] := by kernel_rfl
@[simp] theorem tyEq226 : eEq Go.Proofs.Tryz.prog 226 = some [0, 1] := by kernel_rfl
@[simp] theorem tyEq268 : eEq Go.Proofs.Tryz.prog 268 = some [0, 0] := by kernel_rfl
@[simp] theorem tyEq269 : eEq Go.Proofs.Tryz.prog 269 = some [0, 0] := by kernel_rfl
@[simp] theorem tyEq288 : eEq Go.Proofs.Tryz.prog 288 = some [1] := by kernel_rfl
@[simp] theorem tyEq289 : eEq Go.Proofs.Tryz.prog 289 = some [1] := by kernel_rfl
end Go.Lw
