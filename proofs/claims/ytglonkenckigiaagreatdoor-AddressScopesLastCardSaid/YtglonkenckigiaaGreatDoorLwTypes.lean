/-
  CLOSED FACTS ON THE TYPES OF THIS PROGRAM (printed by a program of ours; each is checked by the kernel).
-/
import Derived.Test.YtglonkenckigiaaGreatDoorLwRun
import Derived.Test.YtglonkenckigiaaGreatDoorRows
set_option linter.unusedSimpArgs false
set_option linter.unusedVariables false
namespace Go.Lw
@[simp] theorem tySz0 : eSz Go.Proofs.Tryz.prog 0 = some 1 := by kernel_rfl
@[simp] theorem tyAgg0 : eAgg Go.Proofs.Tryz.prog 0 = some false := by kernel_rfl
@[simp] theorem tyStr0 : eStr Go.Proofs.Tryz.prog 0 = false := by kernel_rfl
@[simp] theorem tySz1 : eSz Go.Proofs.Tryz.prog 1 = some 1 := by kernel_rfl
@[simp] theorem tyAgg1 : eAgg Go.Proofs.Tryz.prog 1 = some false := by kernel_rfl
@[simp] theorem tyStr1 : eStr Go.Proofs.Tryz.prog 1 = false := by kernel_rfl
@[simp] theorem tyZero1 : eZero Go.Proofs.Tryz.prog 1 = some [.nilFunc] := by kernel_rfl
@[simp] theorem tySz2 : eSz Go.Proofs.Tryz.prog 2 = some 1 := by kernel_rfl
@[simp] theorem tyAgg2 : eAgg Go.Proofs.Tryz.prog 2 = some false := by kernel_rfl
@[simp] theorem tyStr2 : eStr Go.Proofs.Tryz.prog 2 = false := by kernel_rfl
@[simp] theorem tyInt2 : eInt Go.Proofs.Tryz.prog 2 = some .i64 := by kernel_rfl
@[simp] theorem tyZero2 : eZero Go.Proofs.Tryz.prog 2 = some [.int .i64 0] := by kernel_rfl
@[simp] theorem tySz3 : eSz Go.Proofs.Tryz.prog 3 = some 1 := by kernel_rfl
@[simp] theorem tyAgg3 : eAgg Go.Proofs.Tryz.prog 3 = some false := by kernel_rfl
@[simp] theorem tyStr3 : eStr Go.Proofs.Tryz.prog 3 = false := by kernel_rfl
@[simp] theorem tyInt3 : eInt Go.Proofs.Tryz.prog 3 = some .i64 := by kernel_rfl
@[simp] theorem tyZero3 : eZero Go.Proofs.Tryz.prog 3 = some [.int .i64 0] := by kernel_rfl
@[simp] theorem tySz4 : eSz Go.Proofs.Tryz.prog 4 = some 1 := by kernel_rfl
@[simp] theorem tyAgg4 : eAgg Go.Proofs.Tryz.prog 4 = some false := by kernel_rfl
@[simp] theorem tyStr4 : eStr Go.Proofs.Tryz.prog 4 = false := by kernel_rfl
@[simp] theorem tyBool4 : eBool Go.Proofs.Tryz.prog 4 = true := by kernel_rfl
@[simp] theorem tyZero4 : eZero Go.Proofs.Tryz.prog 4 = some [.bool false] := by kernel_rfl
@[simp] theorem tySz5 : eSz Go.Proofs.Tryz.prog 5 = some 1 := by kernel_rfl
@[simp] theorem tyAgg5 : eAgg Go.Proofs.Tryz.prog 5 = some false := by kernel_rfl
@[simp] theorem tyStr5 : eStr Go.Proofs.Tryz.prog 5 = false := by kernel_rfl
@[simp] theorem tyInt5 : eInt Go.Proofs.Tryz.prog 5 = some .u8 := by kernel_rfl
@[simp] theorem tyZero5 : eZero Go.Proofs.Tryz.prog 5 = some [.int .u8 0] := by kernel_rfl
@[simp] theorem tySz6 : eSz Go.Proofs.Tryz.prog 6 = some 1 := by kernel_rfl
@[simp] theorem tyAgg6 : eAgg Go.Proofs.Tryz.prog 6 = some false := by kernel_rfl
@[simp] theorem tyStr6 : eStr Go.Proofs.Tryz.prog 6 = false := by kernel_rfl
@[simp] theorem tyInt6 : eInt Go.Proofs.Tryz.prog 6 = some .u8 := by kernel_rfl
@[simp] theorem tyZero6 : eZero Go.Proofs.Tryz.prog 6 = some [.int .u8 0] := by kernel_rfl
@[simp] theorem tySz7 : eSz Go.Proofs.Tryz.prog 7 = some 4 := by kernel_rfl
@[simp] theorem tyAgg7 : eAgg Go.Proofs.Tryz.prog 7 = some true := by kernel_rfl
@[simp] theorem tyStr7 : eStr Go.Proofs.Tryz.prog 7 = false := by kernel_rfl
@[simp] theorem tyFld7_0 : eFld Go.Proofs.Tryz.prog 7 0 = some (2, 0) := by kernel_rfl
@[simp] theorem tyFld7_1 : eFld Go.Proofs.Tryz.prog 7 1 = some (3, 1) := by kernel_rfl
@[simp] theorem tyFld7_2 : eFld Go.Proofs.Tryz.prog 7 2 = some (4, 2) := by kernel_rfl
@[simp] theorem tyFld7_3 : eFld Go.Proofs.Tryz.prog 7 3 = some (6, 3) := by kernel_rfl
@[simp] theorem tyPl7 : ePl Go.Proofs.Tryz.prog 7 = some [(0, 1), (1, 1), (2, 1), (3, 1)] := by kernel_rfl
@[simp] theorem tyZero7 : eZero Go.Proofs.Tryz.prog 7 = some [.int .i64 0, .int .i64 0, .bool false, .int .u8 0] := by kernel_rfl
@[simp] theorem tySz8 : eSz Go.Proofs.Tryz.prog 8 = some 4 := by kernel_rfl
@[simp] theorem tyAgg8 : eAgg Go.Proofs.Tryz.prog 8 = some true := by kernel_rfl
@[simp] theorem tyStr8 : eStr Go.Proofs.Tryz.prog 8 = false := by kernel_rfl
@[simp] theorem tyFld8_0 : eFld Go.Proofs.Tryz.prog 8 0 = some (2, 0) := by kernel_rfl
@[simp] theorem tyFld8_1 : eFld Go.Proofs.Tryz.prog 8 1 = some (3, 1) := by kernel_rfl
@[simp] theorem tyFld8_2 : eFld Go.Proofs.Tryz.prog 8 2 = some (4, 2) := by kernel_rfl
@[simp] theorem tyFld8_3 : eFld Go.Proofs.Tryz.prog 8 3 = some (6, 3) := by kernel_rfl
@[simp] theorem tyPl8 : ePl Go.Proofs.Tryz.prog 8 = some [(0, 1), (1, 1), (2, 1), (3, 1)] := by kernel_rfl
@[simp] theorem tyZero8 : eZero Go.Proofs.Tryz.prog 8 = some [.int .i64 0, .int .i64 0, .bool false, .int .u8 0] := by kernel_rfl
@[simp] theorem tySz9 : eSz Go.Proofs.Tryz.prog 9 = some 1 := by kernel_rfl
@[simp] theorem tyAgg9 : eAgg Go.Proofs.Tryz.prog 9 = some false := by kernel_rfl
@[simp] theorem tyStr9 : eStr Go.Proofs.Tryz.prog 9 = true := by kernel_rfl
@[simp] theorem tyInt9 : eInt Go.Proofs.Tryz.prog 9 = none := by kernel_rfl
@[simp] theorem tyZero9 : eZero Go.Proofs.Tryz.prog 9 = some [.string .empty] := by kernel_rfl
@[simp] theorem tySz10 : eSz Go.Proofs.Tryz.prog 10 = some 1 := by kernel_rfl
@[simp] theorem tyAgg10 : eAgg Go.Proofs.Tryz.prog 10 = some false := by kernel_rfl
@[simp] theorem tyStr10 : eStr Go.Proofs.Tryz.prog 10 = true := by kernel_rfl
@[simp] theorem tyInt10 : eInt Go.Proofs.Tryz.prog 10 = none := by kernel_rfl
@[simp] theorem tyZero10 : eZero Go.Proofs.Tryz.prog 10 = some [.string .empty] := by kernel_rfl
@[simp] theorem tySz11 : eSz Go.Proofs.Tryz.prog 11 = some 1 := by kernel_rfl
@[simp] theorem tyAgg11 : eAgg Go.Proofs.Tryz.prog 11 = some false := by kernel_rfl
@[simp] theorem tyStr11 : eStr Go.Proofs.Tryz.prog 11 = true := by kernel_rfl
@[simp] theorem tyInt11 : eInt Go.Proofs.Tryz.prog 11 = none := by kernel_rfl
@[simp] theorem tyZero11 : eZero Go.Proofs.Tryz.prog 11 = some [.string .empty] := by kernel_rfl
@[simp] theorem tySz12 : eSz Go.Proofs.Tryz.prog 12 = some 1 := by kernel_rfl
@[simp] theorem tyAgg12 : eAgg Go.Proofs.Tryz.prog 12 = some false := by kernel_rfl
@[simp] theorem tyStr12 : eStr Go.Proofs.Tryz.prog 12 = false := by kernel_rfl
@[simp] theorem tyInt12 : eInt Go.Proofs.Tryz.prog 12 = some .u64 := by kernel_rfl
@[simp] theorem tyZero12 : eZero Go.Proofs.Tryz.prog 12 = some [.int .u64 0] := by kernel_rfl
@[simp] theorem tySz13 : eSz Go.Proofs.Tryz.prog 13 = some 2 := by kernel_rfl
@[simp] theorem tyAgg13 : eAgg Go.Proofs.Tryz.prog 13 = some true := by kernel_rfl
@[simp] theorem tyStr13 : eStr Go.Proofs.Tryz.prog 13 = false := by kernel_rfl
@[simp] theorem tyFld13_0 : eFld Go.Proofs.Tryz.prog 13 0 = some (9, 0) := by kernel_rfl
@[simp] theorem tyFld13_1 : eFld Go.Proofs.Tryz.prog 13 1 = some (12, 1) := by kernel_rfl
@[simp] theorem tyPl13 : ePl Go.Proofs.Tryz.prog 13 = some [(0, 1), (1, 1)] := by kernel_rfl
@[simp] theorem tyZero13 : eZero Go.Proofs.Tryz.prog 13 = some [.string .empty, .int .u64 0] := by kernel_rfl
@[simp] theorem tySz14 : eSz Go.Proofs.Tryz.prog 14 = some 2 := by kernel_rfl
@[simp] theorem tyAgg14 : eAgg Go.Proofs.Tryz.prog 14 = some true := by kernel_rfl
@[simp] theorem tyStr14 : eStr Go.Proofs.Tryz.prog 14 = false := by kernel_rfl
@[simp] theorem tyFld14_0 : eFld Go.Proofs.Tryz.prog 14 0 = some (9, 0) := by kernel_rfl
@[simp] theorem tyFld14_1 : eFld Go.Proofs.Tryz.prog 14 1 = some (12, 1) := by kernel_rfl
@[simp] theorem tyPl14 : ePl Go.Proofs.Tryz.prog 14 = some [(0, 1), (1, 1)] := by kernel_rfl
@[simp] theorem tyZero14 : eZero Go.Proofs.Tryz.prog 14 = some [.string .empty, .int .u64 0] := by kernel_rfl
@[simp] theorem tySz15 : eSz Go.Proofs.Tryz.prog 15 = some 1 := by kernel_rfl
@[simp] theorem tyAgg15 : eAgg Go.Proofs.Tryz.prog 15 = some false := by kernel_rfl
@[simp] theorem tyStr15 : eStr Go.Proofs.Tryz.prog 15 = false := by kernel_rfl
@[simp] theorem tyPtr15 : ePtr Go.Proofs.Tryz.prog 15 = true := by kernel_rfl
@[simp] theorem tyZero15 : eZero Go.Proofs.Tryz.prog 15 = some [.pointer none] := by kernel_rfl
@[simp] theorem tySz16 : eSz Go.Proofs.Tryz.prog 16 = some 1 := by kernel_rfl
@[simp] theorem tyAgg16 : eAgg Go.Proofs.Tryz.prog 16 = some false := by kernel_rfl
@[simp] theorem tyStr16 : eStr Go.Proofs.Tryz.prog 16 = false := by kernel_rfl
@[simp] theorem tyPtr16 : ePtr Go.Proofs.Tryz.prog 16 = false := by kernel_rfl
@[simp] theorem tyZero16 : eZero Go.Proofs.Tryz.prog 16 = some [.pointer none] := by kernel_rfl
@[simp] theorem tySz17 : eSz Go.Proofs.Tryz.prog 17 = some 1 := by kernel_rfl
@[simp] theorem tyAgg17 : eAgg Go.Proofs.Tryz.prog 17 = some false := by kernel_rfl
@[simp] theorem tyStr17 : eStr Go.Proofs.Tryz.prog 17 = false := by kernel_rfl
@[simp] theorem tyPtr17 : ePtr Go.Proofs.Tryz.prog 17 = true := by kernel_rfl
@[simp] theorem tyZero17 : eZero Go.Proofs.Tryz.prog 17 = some [.pointer none] := by kernel_rfl
@[simp] theorem tySz18 : eSz Go.Proofs.Tryz.prog 18 = some 1 := by kernel_rfl
@[simp] theorem tyAgg18 : eAgg Go.Proofs.Tryz.prog 18 = some true := by kernel_rfl
@[simp] theorem tyStr18 : eStr Go.Proofs.Tryz.prog 18 = false := by kernel_rfl
@[simp] theorem tyFld18_0 : eFld Go.Proofs.Tryz.prog 18 0 = some (17, 0) := by kernel_rfl
@[simp] theorem tyPl18 : ePl Go.Proofs.Tryz.prog 18 = some [(0, 1)] := by kernel_rfl
@[simp] theorem tyZero18 : eZero Go.Proofs.Tryz.prog 18 = some [.pointer none] := by kernel_rfl
@[simp] theorem tySz19 : eSz Go.Proofs.Tryz.prog 19 = some 1 := by kernel_rfl
@[simp] theorem tyAgg19 : eAgg Go.Proofs.Tryz.prog 19 = some true := by kernel_rfl
@[simp] theorem tyStr19 : eStr Go.Proofs.Tryz.prog 19 = false := by kernel_rfl
@[simp] theorem tyFld19_0 : eFld Go.Proofs.Tryz.prog 19 0 = some (17, 0) := by kernel_rfl
@[simp] theorem tyPl19 : ePl Go.Proofs.Tryz.prog 19 = some [(0, 1)] := by kernel_rfl
@[simp] theorem tyZero19 : eZero Go.Proofs.Tryz.prog 19 = some [.pointer none] := by kernel_rfl
@[simp] theorem tySz20 : eSz Go.Proofs.Tryz.prog 20 = some 1 := by kernel_rfl
@[simp] theorem tyAgg20 : eAgg Go.Proofs.Tryz.prog 20 = some false := by kernel_rfl
@[simp] theorem tyStr20 : eStr Go.Proofs.Tryz.prog 20 = false := by kernel_rfl
@[simp] theorem tyZero20 : eZero Go.Proofs.Tryz.prog 20 = some [.nilIface] := by kernel_rfl
@[simp] theorem tySz21 : eSz Go.Proofs.Tryz.prog 21 = some 1 := by kernel_rfl
@[simp] theorem tyAgg21 : eAgg Go.Proofs.Tryz.prog 21 = some false := by kernel_rfl
@[simp] theorem tyStr21 : eStr Go.Proofs.Tryz.prog 21 = false := by kernel_rfl
@[simp] theorem tyInt21 : eInt Go.Proofs.Tryz.prog 21 = some .i32 := by kernel_rfl
@[simp] theorem tyZero21 : eZero Go.Proofs.Tryz.prog 21 = some [.int .i32 0] := by kernel_rfl
@[simp] theorem tySz22 : eSz Go.Proofs.Tryz.prog 22 = some 8 := by kernel_rfl
@[simp] theorem tyAgg22 : eAgg Go.Proofs.Tryz.prog 22 = some true := by kernel_rfl
@[simp] theorem tyStr22 : eStr Go.Proofs.Tryz.prog 22 = false := by kernel_rfl
@[simp] theorem tyFld22_0 : eFld Go.Proofs.Tryz.prog 22 0 = some (9, 0) := by kernel_rfl
@[simp] theorem tyFld22_1 : eFld Go.Proofs.Tryz.prog 22 1 = some (9, 1) := by kernel_rfl
@[simp] theorem tyFld22_2 : eFld Go.Proofs.Tryz.prog 22 2 = some (9, 2) := by kernel_rfl
@[simp] theorem tyFld22_3 : eFld Go.Proofs.Tryz.prog 22 3 = some (9, 3) := by kernel_rfl
@[simp] theorem tyFld22_4 : eFld Go.Proofs.Tryz.prog 22 4 = some (9, 4) := by kernel_rfl
@[simp] theorem tyFld22_5 : eFld Go.Proofs.Tryz.prog 22 5 = some (4, 5) := by kernel_rfl
@[simp] theorem tyFld22_6 : eFld Go.Proofs.Tryz.prog 22 6 = some (9, 6) := by kernel_rfl
@[simp] theorem tyFld22_7 : eFld Go.Proofs.Tryz.prog 22 7 = some (4, 7) := by kernel_rfl
@[simp] theorem tyPl22 : ePl Go.Proofs.Tryz.prog 22 = some [(0, 1), (1, 1), (2, 1), (3, 1), (4, 1), (5, 1), (6, 1), (7, 1)] := by kernel_rfl
@[simp] theorem tyZero22 : eZero Go.Proofs.Tryz.prog 22 = some [.string .empty, .string .empty, .string .empty, .string .empty, .string .empty, .bool false, .string .empty, .bool false] := by kernel_rfl
@[simp] theorem tySz23 : eSz Go.Proofs.Tryz.prog 23 = some 8 := by kernel_rfl
@[simp] theorem tyAgg23 : eAgg Go.Proofs.Tryz.prog 23 = some true := by kernel_rfl
@[simp] theorem tyStr23 : eStr Go.Proofs.Tryz.prog 23 = false := by kernel_rfl
@[simp] theorem tyFld23_0 : eFld Go.Proofs.Tryz.prog 23 0 = some (9, 0) := by kernel_rfl
@[simp] theorem tyFld23_1 : eFld Go.Proofs.Tryz.prog 23 1 = some (9, 1) := by kernel_rfl
@[simp] theorem tyFld23_2 : eFld Go.Proofs.Tryz.prog 23 2 = some (9, 2) := by kernel_rfl
@[simp] theorem tyFld23_3 : eFld Go.Proofs.Tryz.prog 23 3 = some (9, 3) := by kernel_rfl
@[simp] theorem tyFld23_4 : eFld Go.Proofs.Tryz.prog 23 4 = some (9, 4) := by kernel_rfl
@[simp] theorem tyFld23_5 : eFld Go.Proofs.Tryz.prog 23 5 = some (4, 5) := by kernel_rfl
@[simp] theorem tyFld23_6 : eFld Go.Proofs.Tryz.prog 23 6 = some (9, 6) := by kernel_rfl
@[simp] theorem tyFld23_7 : eFld Go.Proofs.Tryz.prog 23 7 = some (4, 7) := by kernel_rfl
@[simp] theorem tyPl23 : ePl Go.Proofs.Tryz.prog 23 = some [(0, 1), (1, 1), (2, 1), (3, 1), (4, 1), (5, 1), (6, 1), (7, 1)] := by kernel_rfl
@[simp] theorem tyZero23 : eZero Go.Proofs.Tryz.prog 23 = some [.string .empty, .string .empty, .string .empty, .string .empty, .string .empty, .bool false, .string .empty, .bool false] := by kernel_rfl
@[simp] theorem tySz24 : eSz Go.Proofs.Tryz.prog 24 = some 1 := by kernel_rfl
@[simp] theorem tyAgg24 : eAgg Go.Proofs.Tryz.prog 24 = some false := by kernel_rfl
@[simp] theorem tyStr24 : eStr Go.Proofs.Tryz.prog 24 = false := by kernel_rfl
@[simp] theorem tyInt24 : eInt Go.Proofs.Tryz.prog 24 = some .i64 := by kernel_rfl
@[simp] theorem tyZero24 : eZero Go.Proofs.Tryz.prog 24 = some [.int .i64 0] := by kernel_rfl
@[simp] theorem tySz25 : eSz Go.Proofs.Tryz.prog 25 = some 1 := by kernel_rfl
@[simp] theorem tyAgg25 : eAgg Go.Proofs.Tryz.prog 25 = some false := by kernel_rfl
@[simp] theorem tyStr25 : eStr Go.Proofs.Tryz.prog 25 = false := by kernel_rfl
@[simp] theorem tySz26 : eSz Go.Proofs.Tryz.prog 26 = some 1 := by kernel_rfl
@[simp] theorem tyAgg26 : eAgg Go.Proofs.Tryz.prog 26 = some false := by kernel_rfl
@[simp] theorem tyStr26 : eStr Go.Proofs.Tryz.prog 26 = false := by kernel_rfl
@[simp] theorem tyZero26 : eZero Go.Proofs.Tryz.prog 26 = some [.nilFunc] := by kernel_rfl
@[simp] theorem tySz27 : eSz Go.Proofs.Tryz.prog 27 = some 1 := by kernel_rfl
@[simp] theorem tyAgg27 : eAgg Go.Proofs.Tryz.prog 27 = some false := by kernel_rfl
@[simp] theorem tyStr27 : eStr Go.Proofs.Tryz.prog 27 = false := by kernel_rfl
@[simp] theorem tyZero27 : eZero Go.Proofs.Tryz.prog 27 = some [.nilFunc] := by kernel_rfl
@[simp] theorem tySz28 : eSz Go.Proofs.Tryz.prog 28 = some 1 := by kernel_rfl
@[simp] theorem tyAgg28 : eAgg Go.Proofs.Tryz.prog 28 = some false := by kernel_rfl
@[simp] theorem tyStr28 : eStr Go.Proofs.Tryz.prog 28 = false := by kernel_rfl
@[simp] theorem tyZero28 : eZero Go.Proofs.Tryz.prog 28 = some [.nilFunc] := by kernel_rfl
@[simp] theorem tySz29 : eSz Go.Proofs.Tryz.prog 29 = some 1 := by kernel_rfl
@[simp] theorem tyAgg29 : eAgg Go.Proofs.Tryz.prog 29 = some false := by kernel_rfl
@[simp] theorem tyStr29 : eStr Go.Proofs.Tryz.prog 29 = false := by kernel_rfl
@[simp] theorem tyZero29 : eZero Go.Proofs.Tryz.prog 29 = some [.nilFunc] := by kernel_rfl
@[simp] theorem tySz30 : eSz Go.Proofs.Tryz.prog 30 = some 1 := by kernel_rfl
@[simp] theorem tyAgg30 : eAgg Go.Proofs.Tryz.prog 30 = some false := by kernel_rfl
@[simp] theorem tyStr30 : eStr Go.Proofs.Tryz.prog 30 = false := by kernel_rfl
@[simp] theorem tySz31 : eSz Go.Proofs.Tryz.prog 31 = some 1 := by kernel_rfl
@[simp] theorem tyAgg31 : eAgg Go.Proofs.Tryz.prog 31 = some false := by kernel_rfl
@[simp] theorem tyStr31 : eStr Go.Proofs.Tryz.prog 31 = false := by kernel_rfl
@[simp] theorem tyZero31 : eZero Go.Proofs.Tryz.prog 31 = some [.nilFunc] := by kernel_rfl
@[simp] theorem tySz32 : eSz Go.Proofs.Tryz.prog 32 = some 1 := by kernel_rfl
@[simp] theorem tyAgg32 : eAgg Go.Proofs.Tryz.prog 32 = some false := by kernel_rfl
@[simp] theorem tyStr32 : eStr Go.Proofs.Tryz.prog 32 = false := by kernel_rfl
@[simp] theorem tyZero32 : eZero Go.Proofs.Tryz.prog 32 = some [.nilFunc] := by kernel_rfl
@[simp] theorem tySz33 : eSz Go.Proofs.Tryz.prog 33 = some 1 := by kernel_rfl
@[simp] theorem tyAgg33 : eAgg Go.Proofs.Tryz.prog 33 = some false := by kernel_rfl
@[simp] theorem tyStr33 : eStr Go.Proofs.Tryz.prog 33 = false := by kernel_rfl
@[simp] theorem tyZero33 : eZero Go.Proofs.Tryz.prog 33 = some [.nilFunc] := by kernel_rfl
@[simp] theorem tySz34 : eSz Go.Proofs.Tryz.prog 34 = some 1 := by kernel_rfl
@[simp] theorem tyAgg34 : eAgg Go.Proofs.Tryz.prog 34 = some false := by kernel_rfl
@[simp] theorem tyStr34 : eStr Go.Proofs.Tryz.prog 34 = false := by kernel_rfl
@[simp] theorem tyZero34 : eZero Go.Proofs.Tryz.prog 34 = some [.nilFunc] := by kernel_rfl
@[simp] theorem tySz35 : eSz Go.Proofs.Tryz.prog 35 = some 1 := by kernel_rfl
@[simp] theorem tyAgg35 : eAgg Go.Proofs.Tryz.prog 35 = some false := by kernel_rfl
@[simp] theorem tyStr35 : eStr Go.Proofs.Tryz.prog 35 = false := by kernel_rfl
@[simp] theorem tyZero35 : eZero Go.Proofs.Tryz.prog 35 = some [.nilFunc] := by kernel_rfl
@[simp] theorem tySz36 : eSz Go.Proofs.Tryz.prog 36 = some 1 := by kernel_rfl
@[simp] theorem tyAgg36 : eAgg Go.Proofs.Tryz.prog 36 = some false := by kernel_rfl
@[simp] theorem tyElem36 : eElem Go.Proofs.Tryz.prog 36 = some (38, 3) := by kernel_rfl
@[simp] theorem tyBytes38 : eBytes Go.Proofs.Tryz.prog 38 = some 32 := by kernel_rfl
@[simp] theorem tyStr36 : eStr Go.Proofs.Tryz.prog 36 = false := by kernel_rfl
@[simp] theorem tyZero36 : eZero Go.Proofs.Tryz.prog 36 = some [.slice none 0 0] := by kernel_rfl
@[simp] theorem tySz37 : eSz Go.Proofs.Tryz.prog 37 = some 3 := by kernel_rfl
@[simp] theorem tyAgg37 : eAgg Go.Proofs.Tryz.prog 37 = some true := by kernel_rfl
@[simp] theorem tyStr37 : eStr Go.Proofs.Tryz.prog 37 = false := by kernel_rfl
@[simp] theorem tyFld37_0 : eFld Go.Proofs.Tryz.prog 37 0 = some (3, 0) := by kernel_rfl
@[simp] theorem tyFld37_1 : eFld Go.Proofs.Tryz.prog 37 1 = some (9, 1) := by kernel_rfl
@[simp] theorem tyFld37_2 : eFld Go.Proofs.Tryz.prog 37 2 = some (4, 2) := by kernel_rfl
@[simp] theorem tyPl37 : ePl Go.Proofs.Tryz.prog 37 = some [(0, 1), (1, 1), (2, 1)] := by kernel_rfl
@[simp] theorem tyZero37 : eZero Go.Proofs.Tryz.prog 37 = some [.int .i64 0, .string .empty, .bool false] := by kernel_rfl
@[simp] theorem tySz38 : eSz Go.Proofs.Tryz.prog 38 = some 3 := by kernel_rfl
@[simp] theorem tyAgg38 : eAgg Go.Proofs.Tryz.prog 38 = some true := by kernel_rfl
@[simp] theorem tyStr38 : eStr Go.Proofs.Tryz.prog 38 = false := by kernel_rfl
@[simp] theorem tyFld38_0 : eFld Go.Proofs.Tryz.prog 38 0 = some (3, 0) := by kernel_rfl
@[simp] theorem tyFld38_1 : eFld Go.Proofs.Tryz.prog 38 1 = some (9, 1) := by kernel_rfl
@[simp] theorem tyFld38_2 : eFld Go.Proofs.Tryz.prog 38 2 = some (4, 2) := by kernel_rfl
@[simp] theorem tyPl38 : ePl Go.Proofs.Tryz.prog 38 = some [(0, 1), (1, 1), (2, 1)] := by kernel_rfl
@[simp] theorem tyZero38 : eZero Go.Proofs.Tryz.prog 38 = some [.int .i64 0, .string .empty, .bool false] := by kernel_rfl
@[simp] theorem tySz39 : eSz Go.Proofs.Tryz.prog 39 = some 1 := by kernel_rfl
@[simp] theorem tyAgg39 : eAgg Go.Proofs.Tryz.prog 39 = some false := by kernel_rfl
@[simp] theorem tyStr39 : eStr Go.Proofs.Tryz.prog 39 = false := by kernel_rfl
@[simp] theorem tyZero39 : eZero Go.Proofs.Tryz.prog 39 = some [.nilFunc] := by kernel_rfl
@[simp] theorem tySz40 : eSz Go.Proofs.Tryz.prog 40 = some 1 := by kernel_rfl
@[simp] theorem tyAgg40 : eAgg Go.Proofs.Tryz.prog 40 = some false := by kernel_rfl
@[simp] theorem tyStr40 : eStr Go.Proofs.Tryz.prog 40 = false := by kernel_rfl
@[simp] theorem tySz41 : eSz Go.Proofs.Tryz.prog 41 = some 1 := by kernel_rfl
@[simp] theorem tyAgg41 : eAgg Go.Proofs.Tryz.prog 41 = some false := by kernel_rfl
@[simp] theorem tyStr41 : eStr Go.Proofs.Tryz.prog 41 = false := by kernel_rfl
@[simp] theorem tyZero41 : eZero Go.Proofs.Tryz.prog 41 = some [.nilFunc] := by kernel_rfl
@[simp] theorem tySz42 : eSz Go.Proofs.Tryz.prog 42 = some 1 := by kernel_rfl
@[simp] theorem tyAgg42 : eAgg Go.Proofs.Tryz.prog 42 = some false := by kernel_rfl
@[simp] theorem tyStr42 : eStr Go.Proofs.Tryz.prog 42 = false := by kernel_rfl
@[simp] theorem tyZero42 : eZero Go.Proofs.Tryz.prog 42 = some [.nilFunc] := by kernel_rfl
@[simp] theorem tySz43 : eSz Go.Proofs.Tryz.prog 43 = some 1 := by kernel_rfl
@[simp] theorem tyAgg43 : eAgg Go.Proofs.Tryz.prog 43 = some false := by kernel_rfl
@[simp] theorem tyStr43 : eStr Go.Proofs.Tryz.prog 43 = false := by kernel_rfl
@[simp] theorem tyZero43 : eZero Go.Proofs.Tryz.prog 43 = some [.nilFunc] := by kernel_rfl
@[simp] theorem tySz44 : eSz Go.Proofs.Tryz.prog 44 = some 1 := by kernel_rfl
@[simp] theorem tyAgg44 : eAgg Go.Proofs.Tryz.prog 44 = some false := by kernel_rfl
@[simp] theorem tyStr44 : eStr Go.Proofs.Tryz.prog 44 = false := by kernel_rfl
@[simp] theorem tyZero44 : eZero Go.Proofs.Tryz.prog 44 = some [.nilFunc] := by kernel_rfl
@[simp] theorem tySz45 : eSz Go.Proofs.Tryz.prog 45 = some 1 := by kernel_rfl
@[simp] theorem tyAgg45 : eAgg Go.Proofs.Tryz.prog 45 = some false := by kernel_rfl
@[simp] theorem tyStr45 : eStr Go.Proofs.Tryz.prog 45 = false := by kernel_rfl
@[simp] theorem tyZero45 : eZero Go.Proofs.Tryz.prog 45 = some [.nilFunc] := by kernel_rfl
@[simp] theorem tySz46 : eSz Go.Proofs.Tryz.prog 46 = some 1 := by kernel_rfl
@[simp] theorem tyAgg46 : eAgg Go.Proofs.Tryz.prog 46 = some false := by kernel_rfl
@[simp] theorem tyElem46 : eElem Go.Proofs.Tryz.prog 46 = some (77, 2) := by kernel_rfl
@[simp] theorem tyBytes77 : eBytes Go.Proofs.Tryz.prog 77 = some 24 := by kernel_rfl
@[simp] theorem tyStr46 : eStr Go.Proofs.Tryz.prog 46 = false := by kernel_rfl
@[simp] theorem tyZero46 : eZero Go.Proofs.Tryz.prog 46 = some [.slice none 0 0] := by kernel_rfl
@[simp] theorem tySz47 : eSz Go.Proofs.Tryz.prog 47 = some 1 := by kernel_rfl
@[simp] theorem tyAgg47 : eAgg Go.Proofs.Tryz.prog 47 = some false := by kernel_rfl
@[simp] theorem tyStr47 : eStr Go.Proofs.Tryz.prog 47 = false := by kernel_rfl
@[simp] theorem tyZero47 : eZero Go.Proofs.Tryz.prog 47 = some [.nilFunc] := by kernel_rfl
@[simp] theorem tySz48 : eSz Go.Proofs.Tryz.prog 48 = some 1 := by kernel_rfl
@[simp] theorem tyAgg48 : eAgg Go.Proofs.Tryz.prog 48 = some false := by kernel_rfl
@[simp] theorem tyStr48 : eStr Go.Proofs.Tryz.prog 48 = false := by kernel_rfl
@[simp] theorem tyZero48 : eZero Go.Proofs.Tryz.prog 48 = some [.nilFunc] := by kernel_rfl
@[simp] theorem tySz49 : eSz Go.Proofs.Tryz.prog 49 = some 1 := by kernel_rfl
@[simp] theorem tyAgg49 : eAgg Go.Proofs.Tryz.prog 49 = some false := by kernel_rfl
@[simp] theorem tyStr49 : eStr Go.Proofs.Tryz.prog 49 = false := by kernel_rfl
@[simp] theorem tyZero49 : eZero Go.Proofs.Tryz.prog 49 = some [.nilFunc] := by kernel_rfl
@[simp] theorem tySz50 : eSz Go.Proofs.Tryz.prog 50 = some 1 := by kernel_rfl
@[simp] theorem tyAgg50 : eAgg Go.Proofs.Tryz.prog 50 = some false := by kernel_rfl
@[simp] theorem tyStr50 : eStr Go.Proofs.Tryz.prog 50 = false := by kernel_rfl
@[simp] theorem tyZero50 : eZero Go.Proofs.Tryz.prog 50 = some [.nilFunc] := by kernel_rfl
@[simp] theorem tySz51 : eSz Go.Proofs.Tryz.prog 51 = some 1 := by kernel_rfl
@[simp] theorem tyAgg51 : eAgg Go.Proofs.Tryz.prog 51 = some false := by kernel_rfl
@[simp] theorem tyStr51 : eStr Go.Proofs.Tryz.prog 51 = false := by kernel_rfl
@[simp] theorem tyZero51 : eZero Go.Proofs.Tryz.prog 51 = some [.nilFunc] := by kernel_rfl
@[simp] theorem tySz52 : eSz Go.Proofs.Tryz.prog 52 = some 1 := by kernel_rfl
@[simp] theorem tyAgg52 : eAgg Go.Proofs.Tryz.prog 52 = some false := by kernel_rfl
@[simp] theorem tyStr52 : eStr Go.Proofs.Tryz.prog 52 = false := by kernel_rfl
@[simp] theorem tyZero52 : eZero Go.Proofs.Tryz.prog 52 = some [.nilFunc] := by kernel_rfl
@[simp] theorem tySz53 : eSz Go.Proofs.Tryz.prog 53 = some 1 := by kernel_rfl
@[simp] theorem tyAgg53 : eAgg Go.Proofs.Tryz.prog 53 = some false := by kernel_rfl
@[simp] theorem tyStr53 : eStr Go.Proofs.Tryz.prog 53 = false := by kernel_rfl
@[simp] theorem tyZero53 : eZero Go.Proofs.Tryz.prog 53 = some [.nilFunc] := by kernel_rfl
@[simp] theorem tySz54 : eSz Go.Proofs.Tryz.prog 54 = some 1 := by kernel_rfl
@[simp] theorem tyAgg54 : eAgg Go.Proofs.Tryz.prog 54 = some false := by kernel_rfl
@[simp] theorem tyStr54 : eStr Go.Proofs.Tryz.prog 54 = false := by kernel_rfl
@[simp] theorem tyZero54 : eZero Go.Proofs.Tryz.prog 54 = some [.nilFunc] := by kernel_rfl
@[simp] theorem tySz55 : eSz Go.Proofs.Tryz.prog 55 = some 1 := by kernel_rfl
@[simp] theorem tyAgg55 : eAgg Go.Proofs.Tryz.prog 55 = some false := by kernel_rfl
@[simp] theorem tyStr55 : eStr Go.Proofs.Tryz.prog 55 = false := by kernel_rfl
@[simp] theorem tyZero55 : eZero Go.Proofs.Tryz.prog 55 = some [.nilFunc] := by kernel_rfl
@[simp] theorem tySz56 : eSz Go.Proofs.Tryz.prog 56 = some 1 := by kernel_rfl
@[simp] theorem tyAgg56 : eAgg Go.Proofs.Tryz.prog 56 = some false := by kernel_rfl
@[simp] theorem tyStr56 : eStr Go.Proofs.Tryz.prog 56 = false := by kernel_rfl
@[simp] theorem tySz57 : eSz Go.Proofs.Tryz.prog 57 = some 1 := by kernel_rfl
@[simp] theorem tyAgg57 : eAgg Go.Proofs.Tryz.prog 57 = some false := by kernel_rfl
@[simp] theorem tyStr57 : eStr Go.Proofs.Tryz.prog 57 = false := by kernel_rfl
@[simp] theorem tyZero57 : eZero Go.Proofs.Tryz.prog 57 = some [.nilFunc] := by kernel_rfl
@[simp] theorem tySz58 : eSz Go.Proofs.Tryz.prog 58 = some 1 := by kernel_rfl
@[simp] theorem tyAgg58 : eAgg Go.Proofs.Tryz.prog 58 = some false := by kernel_rfl
@[simp] theorem tyStr58 : eStr Go.Proofs.Tryz.prog 58 = false := by kernel_rfl
@[simp] theorem tyZero58 : eZero Go.Proofs.Tryz.prog 58 = some [.nilFunc] := by kernel_rfl
@[simp] theorem tySz59 : eSz Go.Proofs.Tryz.prog 59 = some 1 := by kernel_rfl
@[simp] theorem tyAgg59 : eAgg Go.Proofs.Tryz.prog 59 = some false := by kernel_rfl
@[simp] theorem tyStr59 : eStr Go.Proofs.Tryz.prog 59 = false := by kernel_rfl
@[simp] theorem tyZero59 : eZero Go.Proofs.Tryz.prog 59 = some [.nilFunc] := by kernel_rfl
@[simp] theorem tySz60 : eSz Go.Proofs.Tryz.prog 60 = some 1 := by kernel_rfl
@[simp] theorem tyAgg60 : eAgg Go.Proofs.Tryz.prog 60 = some false := by kernel_rfl
@[simp] theorem tyStr60 : eStr Go.Proofs.Tryz.prog 60 = false := by kernel_rfl
@[simp] theorem tyZero60 : eZero Go.Proofs.Tryz.prog 60 = some [.nilFunc] := by kernel_rfl
@[simp] theorem tySz61 : eSz Go.Proofs.Tryz.prog 61 = some 1 := by kernel_rfl
@[simp] theorem tyAgg61 : eAgg Go.Proofs.Tryz.prog 61 = some false := by kernel_rfl
@[simp] theorem tyStr61 : eStr Go.Proofs.Tryz.prog 61 = false := by kernel_rfl
@[simp] theorem tySz62 : eSz Go.Proofs.Tryz.prog 62 = some 1 := by kernel_rfl
@[simp] theorem tyAgg62 : eAgg Go.Proofs.Tryz.prog 62 = some false := by kernel_rfl
@[simp] theorem tyStr62 : eStr Go.Proofs.Tryz.prog 62 = false := by kernel_rfl
@[simp] theorem tyZero62 : eZero Go.Proofs.Tryz.prog 62 = some [.nilFunc] := by kernel_rfl
@[simp] theorem tySz63 : eSz Go.Proofs.Tryz.prog 63 = some 1 := by kernel_rfl
@[simp] theorem tyAgg63 : eAgg Go.Proofs.Tryz.prog 63 = some false := by kernel_rfl
@[simp] theorem tyStr63 : eStr Go.Proofs.Tryz.prog 63 = false := by kernel_rfl
@[simp] theorem tyZero63 : eZero Go.Proofs.Tryz.prog 63 = some [.nilFunc] := by kernel_rfl
@[simp] theorem tySz64 : eSz Go.Proofs.Tryz.prog 64 = some 1 := by kernel_rfl
@[simp] theorem tyAgg64 : eAgg Go.Proofs.Tryz.prog 64 = some false := by kernel_rfl
@[simp] theorem tyStr64 : eStr Go.Proofs.Tryz.prog 64 = false := by kernel_rfl
@[simp] theorem tyZero64 : eZero Go.Proofs.Tryz.prog 64 = some [.nilFunc] := by kernel_rfl
@[simp] theorem tySz65 : eSz Go.Proofs.Tryz.prog 65 = some 1 := by kernel_rfl
@[simp] theorem tyAgg65 : eAgg Go.Proofs.Tryz.prog 65 = some false := by kernel_rfl
@[simp] theorem tyStr65 : eStr Go.Proofs.Tryz.prog 65 = false := by kernel_rfl
@[simp] theorem tyZero65 : eZero Go.Proofs.Tryz.prog 65 = some [.nilFunc] := by kernel_rfl
@[simp] theorem tySz66 : eSz Go.Proofs.Tryz.prog 66 = some 1 := by kernel_rfl
@[simp] theorem tyAgg66 : eAgg Go.Proofs.Tryz.prog 66 = some false := by kernel_rfl
@[simp] theorem tyStr66 : eStr Go.Proofs.Tryz.prog 66 = false := by kernel_rfl
@[simp] theorem tyZero66 : eZero Go.Proofs.Tryz.prog 66 = some [.nilFunc] := by kernel_rfl
@[simp] theorem tySz67 : eSz Go.Proofs.Tryz.prog 67 = some 1 := by kernel_rfl
@[simp] theorem tyAgg67 : eAgg Go.Proofs.Tryz.prog 67 = some false := by kernel_rfl
@[simp] theorem tyStr67 : eStr Go.Proofs.Tryz.prog 67 = false := by kernel_rfl
@[simp] theorem tyZero67 : eZero Go.Proofs.Tryz.prog 67 = some [.nilFunc] := by kernel_rfl
@[simp] theorem tySz68 : eSz Go.Proofs.Tryz.prog 68 = some 1 := by kernel_rfl
@[simp] theorem tyAgg68 : eAgg Go.Proofs.Tryz.prog 68 = some false := by kernel_rfl
@[simp] theorem tyStr68 : eStr Go.Proofs.Tryz.prog 68 = false := by kernel_rfl
@[simp] theorem tyZero68 : eZero Go.Proofs.Tryz.prog 68 = some [.nilFunc] := by kernel_rfl
@[simp] theorem tySz69 : eSz Go.Proofs.Tryz.prog 69 = some 1 := by kernel_rfl
@[simp] theorem tyAgg69 : eAgg Go.Proofs.Tryz.prog 69 = some false := by kernel_rfl
@[simp] theorem tyStr69 : eStr Go.Proofs.Tryz.prog 69 = false := by kernel_rfl
@[simp] theorem tySz70 : eSz Go.Proofs.Tryz.prog 70 = some 1 := by kernel_rfl
@[simp] theorem tyAgg70 : eAgg Go.Proofs.Tryz.prog 70 = some false := by kernel_rfl
@[simp] theorem tyStr70 : eStr Go.Proofs.Tryz.prog 70 = false := by kernel_rfl
@[simp] theorem tyZero70 : eZero Go.Proofs.Tryz.prog 70 = some [.nilFunc] := by kernel_rfl
@[simp] theorem tySz71 : eSz Go.Proofs.Tryz.prog 71 = some 1 := by kernel_rfl
@[simp] theorem tyAgg71 : eAgg Go.Proofs.Tryz.prog 71 = some false := by kernel_rfl
@[simp] theorem tyElem71 : eElem Go.Proofs.Tryz.prog 71 = some (9, 1) := by kernel_rfl
@[simp] theorem tyBytes9 : eBytes Go.Proofs.Tryz.prog 9 = some 16 := by kernel_rfl
@[simp] theorem tyStr71 : eStr Go.Proofs.Tryz.prog 71 = false := by kernel_rfl
@[simp] theorem tyZero71 : eZero Go.Proofs.Tryz.prog 71 = some [.slice none 0 0] := by kernel_rfl
@[simp] theorem tySz72 : eSz Go.Proofs.Tryz.prog 72 = some 1 := by kernel_rfl
@[simp] theorem tyAgg72 : eAgg Go.Proofs.Tryz.prog 72 = some false := by kernel_rfl
@[simp] theorem tyStr72 : eStr Go.Proofs.Tryz.prog 72 = false := by kernel_rfl
@[simp] theorem tyZero72 : eZero Go.Proofs.Tryz.prog 72 = some [.nilFunc] := by kernel_rfl
@[simp] theorem tySz73 : eSz Go.Proofs.Tryz.prog 73 = some 1 := by kernel_rfl
@[simp] theorem tyAgg73 : eAgg Go.Proofs.Tryz.prog 73 = some false := by kernel_rfl
@[simp] theorem tyStr73 : eStr Go.Proofs.Tryz.prog 73 = false := by kernel_rfl
@[simp] theorem tyZero73 : eZero Go.Proofs.Tryz.prog 73 = some [.nilFunc] := by kernel_rfl
@[simp] theorem tySz74 : eSz Go.Proofs.Tryz.prog 74 = some 1 := by kernel_rfl
@[simp] theorem tyAgg74 : eAgg Go.Proofs.Tryz.prog 74 = some false := by kernel_rfl
@[simp] theorem tyStr74 : eStr Go.Proofs.Tryz.prog 74 = false := by kernel_rfl
@[simp] theorem tyZero74 : eZero Go.Proofs.Tryz.prog 74 = some [.nilFunc] := by kernel_rfl
@[simp] theorem tySz75 : eSz Go.Proofs.Tryz.prog 75 = some 1 := by kernel_rfl
@[simp] theorem tyAgg75 : eAgg Go.Proofs.Tryz.prog 75 = some false := by kernel_rfl
@[simp] theorem tyStr75 : eStr Go.Proofs.Tryz.prog 75 = false := by kernel_rfl
@[simp] theorem tyZero75 : eZero Go.Proofs.Tryz.prog 75 = some [.nilFunc] := by kernel_rfl
@[simp] theorem tySz76 : eSz Go.Proofs.Tryz.prog 76 = some 2 := by kernel_rfl
@[simp] theorem tyAgg76 : eAgg Go.Proofs.Tryz.prog 76 = some true := by kernel_rfl
@[simp] theorem tyStr76 : eStr Go.Proofs.Tryz.prog 76 = false := by kernel_rfl
@[simp] theorem tyFld76_0 : eFld Go.Proofs.Tryz.prog 76 0 = some (3, 0) := by kernel_rfl
@[simp] theorem tyFld76_1 : eFld Go.Proofs.Tryz.prog 76 1 = some (9, 1) := by kernel_rfl
@[simp] theorem tyPl76 : ePl Go.Proofs.Tryz.prog 76 = some [(0, 1), (1, 1)] := by kernel_rfl
@[simp] theorem tyZero76 : eZero Go.Proofs.Tryz.prog 76 = some [.int .i64 0, .string .empty] := by kernel_rfl
@[simp] theorem tySz77 : eSz Go.Proofs.Tryz.prog 77 = some 2 := by kernel_rfl
@[simp] theorem tyAgg77 : eAgg Go.Proofs.Tryz.prog 77 = some true := by kernel_rfl
@[simp] theorem tyStr77 : eStr Go.Proofs.Tryz.prog 77 = false := by kernel_rfl
@[simp] theorem tyFld77_0 : eFld Go.Proofs.Tryz.prog 77 0 = some (3, 0) := by kernel_rfl
@[simp] theorem tyFld77_1 : eFld Go.Proofs.Tryz.prog 77 1 = some (9, 1) := by kernel_rfl
@[simp] theorem tyPl77 : ePl Go.Proofs.Tryz.prog 77 = some [(0, 1), (1, 1)] := by kernel_rfl
@[simp] theorem tyZero77 : eZero Go.Proofs.Tryz.prog 77 = some [.int .i64 0, .string .empty] := by kernel_rfl
@[simp] theorem tySz78 : eSz Go.Proofs.Tryz.prog 78 = some 1 := by kernel_rfl
@[simp] theorem tyAgg78 : eAgg Go.Proofs.Tryz.prog 78 = some false := by kernel_rfl
@[simp] theorem tyStr78 : eStr Go.Proofs.Tryz.prog 78 = false := by kernel_rfl
@[simp] theorem tyZero78 : eZero Go.Proofs.Tryz.prog 78 = some [.nilFunc] := by kernel_rfl
@[simp] theorem tySz79 : eSz Go.Proofs.Tryz.prog 79 = some 1 := by kernel_rfl
@[simp] theorem tyAgg79 : eAgg Go.Proofs.Tryz.prog 79 = some false := by kernel_rfl
@[simp] theorem tyStr79 : eStr Go.Proofs.Tryz.prog 79 = false := by kernel_rfl
@[simp] theorem tyZero79 : eZero Go.Proofs.Tryz.prog 79 = some [.nilFunc] := by kernel_rfl
@[simp] theorem tySz80 : eSz Go.Proofs.Tryz.prog 80 = some 1 := by kernel_rfl
@[simp] theorem tyAgg80 : eAgg Go.Proofs.Tryz.prog 80 = some false := by kernel_rfl
@[simp] theorem tyStr80 : eStr Go.Proofs.Tryz.prog 80 = false := by kernel_rfl
@[simp] theorem tyZero80 : eZero Go.Proofs.Tryz.prog 80 = some [.nilFunc] := by kernel_rfl
@[simp] theorem tySz81 : eSz Go.Proofs.Tryz.prog 81 = some 1 := by kernel_rfl
@[simp] theorem tyAgg81 : eAgg Go.Proofs.Tryz.prog 81 = some false := by kernel_rfl
@[simp] theorem tyStr81 : eStr Go.Proofs.Tryz.prog 81 = false := by kernel_rfl
@[simp] theorem tyZero81 : eZero Go.Proofs.Tryz.prog 81 = some [.nilFunc] := by kernel_rfl
@[simp] theorem tySz82 : eSz Go.Proofs.Tryz.prog 82 = some 1 := by kernel_rfl
@[simp] theorem tyAgg82 : eAgg Go.Proofs.Tryz.prog 82 = some false := by kernel_rfl
@[simp] theorem tyStr82 : eStr Go.Proofs.Tryz.prog 82 = false := by kernel_rfl
@[simp] theorem tyZero82 : eZero Go.Proofs.Tryz.prog 82 = some [.nilFunc] := by kernel_rfl
@[simp] theorem tySz83 : eSz Go.Proofs.Tryz.prog 83 = some 1 := by kernel_rfl
@[simp] theorem tyAgg83 : eAgg Go.Proofs.Tryz.prog 83 = some false := by kernel_rfl
@[simp] theorem tyStr83 : eStr Go.Proofs.Tryz.prog 83 = false := by kernel_rfl
@[simp] theorem tySz84 : eSz Go.Proofs.Tryz.prog 84 = some 1 := by kernel_rfl
@[simp] theorem tyAgg84 : eAgg Go.Proofs.Tryz.prog 84 = some false := by kernel_rfl
@[simp] theorem tyStr84 : eStr Go.Proofs.Tryz.prog 84 = false := by kernel_rfl
@[simp] theorem tyZero84 : eZero Go.Proofs.Tryz.prog 84 = some [.nilFunc] := by kernel_rfl
@[simp] theorem tySz85 : eSz Go.Proofs.Tryz.prog 85 = some 1 := by kernel_rfl
@[simp] theorem tyAgg85 : eAgg Go.Proofs.Tryz.prog 85 = some false := by kernel_rfl
@[simp] theorem tyStr85 : eStr Go.Proofs.Tryz.prog 85 = false := by kernel_rfl
@[simp] theorem tyPtr85 : ePtr Go.Proofs.Tryz.prog 85 = true := by kernel_rfl
@[simp] theorem tyZero85 : eZero Go.Proofs.Tryz.prog 85 = some [.pointer none] := by kernel_rfl
@[simp] theorem tySz86 : eSz Go.Proofs.Tryz.prog 86 = some 10 := by kernel_rfl
@[simp] theorem tyAgg86 : eAgg Go.Proofs.Tryz.prog 86 = some true := by kernel_rfl
@[simp] theorem tyStr86 : eStr Go.Proofs.Tryz.prog 86 = false := by kernel_rfl
@[simp] theorem tyFld86_0 : eFld Go.Proofs.Tryz.prog 86 0 = some (9, 0) := by kernel_rfl
@[simp] theorem tyFld86_1 : eFld Go.Proofs.Tryz.prog 86 1 = some (3, 1) := by kernel_rfl
@[simp] theorem tyFld86_2 : eFld Go.Proofs.Tryz.prog 86 2 = some (23, 2) := by kernel_rfl
@[simp] theorem tyPl86 : ePl Go.Proofs.Tryz.prog 86 = some [(0, 1), (1, 1), (2, 8)] := by kernel_rfl
@[simp] theorem tyZero86 : eZero Go.Proofs.Tryz.prog 86 = some [.string .empty, .int .i64 0, .string .empty, .string .empty, .string .empty, .string .empty, .string .empty, .bool false, .string .empty, .bool false] := by kernel_rfl
@[simp] theorem tySz87 : eSz Go.Proofs.Tryz.prog 87 = some 10 := by kernel_rfl
@[simp] theorem tyAgg87 : eAgg Go.Proofs.Tryz.prog 87 = some true := by kernel_rfl
@[simp] theorem tyStr87 : eStr Go.Proofs.Tryz.prog 87 = false := by kernel_rfl
@[simp] theorem tyFld87_0 : eFld Go.Proofs.Tryz.prog 87 0 = some (9, 0) := by kernel_rfl
@[simp] theorem tyFld87_1 : eFld Go.Proofs.Tryz.prog 87 1 = some (3, 1) := by kernel_rfl
@[simp] theorem tyFld87_2 : eFld Go.Proofs.Tryz.prog 87 2 = some (23, 2) := by kernel_rfl
@[simp] theorem tyPl87 : ePl Go.Proofs.Tryz.prog 87 = some [(0, 1), (1, 1), (2, 8)] := by kernel_rfl
@[simp] theorem tyZero87 : eZero Go.Proofs.Tryz.prog 87 = some [.string .empty, .int .i64 0, .string .empty, .string .empty, .string .empty, .string .empty, .string .empty, .bool false, .string .empty, .bool false] := by kernel_rfl
@[simp] theorem tySz88 : eSz Go.Proofs.Tryz.prog 88 = some 1 := by kernel_rfl
@[simp] theorem tyAgg88 : eAgg Go.Proofs.Tryz.prog 88 = some false := by kernel_rfl
@[simp] theorem tyStr88 : eStr Go.Proofs.Tryz.prog 88 = false := by kernel_rfl
@[simp] theorem tyZero88 : eZero Go.Proofs.Tryz.prog 88 = some [.nilFunc] := by kernel_rfl
@[simp] theorem tySz89 : eSz Go.Proofs.Tryz.prog 89 = some 1 := by kernel_rfl
@[simp] theorem tyAgg89 : eAgg Go.Proofs.Tryz.prog 89 = some false := by kernel_rfl
@[simp] theorem tyStr89 : eStr Go.Proofs.Tryz.prog 89 = false := by kernel_rfl
@[simp] theorem tyZero89 : eZero Go.Proofs.Tryz.prog 89 = some [.nilIface] := by kernel_rfl
@[simp] theorem tySz90 : eSz Go.Proofs.Tryz.prog 90 = some 1 := by kernel_rfl
@[simp] theorem tyAgg90 : eAgg Go.Proofs.Tryz.prog 90 = some false := by kernel_rfl
@[simp] theorem tyStr90 : eStr Go.Proofs.Tryz.prog 90 = false := by kernel_rfl
@[simp] theorem tyZero90 : eZero Go.Proofs.Tryz.prog 90 = some [.nilIface] := by kernel_rfl
@[simp] theorem tySz91 : eSz Go.Proofs.Tryz.prog 91 = some 1 := by kernel_rfl
@[simp] theorem tyAgg91 : eAgg Go.Proofs.Tryz.prog 91 = some false := by kernel_rfl
@[simp] theorem tyStr91 : eStr Go.Proofs.Tryz.prog 91 = false := by kernel_rfl
@[simp] theorem tySz92 : eSz Go.Proofs.Tryz.prog 92 = some 1 := by kernel_rfl
@[simp] theorem tyAgg92 : eAgg Go.Proofs.Tryz.prog 92 = some false := by kernel_rfl
@[simp] theorem tyStr92 : eStr Go.Proofs.Tryz.prog 92 = false := by kernel_rfl
@[simp] theorem tyZero92 : eZero Go.Proofs.Tryz.prog 92 = some [.nilFunc] := by kernel_rfl
@[simp] theorem tySz93 : eSz Go.Proofs.Tryz.prog 93 = some 1 := by kernel_rfl
@[simp] theorem tyAgg93 : eAgg Go.Proofs.Tryz.prog 93 = some false := by kernel_rfl
@[simp] theorem tyStr93 : eStr Go.Proofs.Tryz.prog 93 = false := by kernel_rfl
@[simp] theorem tyZero93 : eZero Go.Proofs.Tryz.prog 93 = some [.nilFunc] := by kernel_rfl
@[simp] theorem tySz94 : eSz Go.Proofs.Tryz.prog 94 = some 1 := by kernel_rfl
@[simp] theorem tyAgg94 : eAgg Go.Proofs.Tryz.prog 94 = some false := by kernel_rfl
@[simp] theorem tyElem94 : eElem Go.Proofs.Tryz.prog 94 = some (5, 1) := by kernel_rfl
@[simp] theorem tyBytes5 : eBytes Go.Proofs.Tryz.prog 5 = some 1 := by kernel_rfl
@[simp] theorem tyStr94 : eStr Go.Proofs.Tryz.prog 94 = false := by kernel_rfl
@[simp] theorem tyZero94 : eZero Go.Proofs.Tryz.prog 94 = some [.slice none 0 0] := by kernel_rfl
@[simp] theorem tySz95 : eSz Go.Proofs.Tryz.prog 95 = some 1 := by kernel_rfl
@[simp] theorem tyAgg95 : eAgg Go.Proofs.Tryz.prog 95 = some false := by kernel_rfl
@[simp] theorem tyStr95 : eStr Go.Proofs.Tryz.prog 95 = false := by kernel_rfl
@[simp] theorem tySz96 : eSz Go.Proofs.Tryz.prog 96 = some 1 := by kernel_rfl
@[simp] theorem tyAgg96 : eAgg Go.Proofs.Tryz.prog 96 = some false := by kernel_rfl
@[simp] theorem tyStr96 : eStr Go.Proofs.Tryz.prog 96 = false := by kernel_rfl
@[simp] theorem tyZero96 : eZero Go.Proofs.Tryz.prog 96 = some [.nilFunc] := by kernel_rfl
@[simp] theorem tySz97 : eSz Go.Proofs.Tryz.prog 97 = some 1 := by kernel_rfl
@[simp] theorem tyAgg97 : eAgg Go.Proofs.Tryz.prog 97 = some false := by kernel_rfl
@[simp] theorem tyStr97 : eStr Go.Proofs.Tryz.prog 97 = false := by kernel_rfl
@[simp] theorem tyZero97 : eZero Go.Proofs.Tryz.prog 97 = some [.nilFunc] := by kernel_rfl
@[simp] theorem tySz98 : eSz Go.Proofs.Tryz.prog 98 = some 1 := by kernel_rfl
@[simp] theorem tyAgg98 : eAgg Go.Proofs.Tryz.prog 98 = some false := by kernel_rfl
@[simp] theorem tyStr98 : eStr Go.Proofs.Tryz.prog 98 = false := by kernel_rfl
@[simp] theorem tySz99 : eSz Go.Proofs.Tryz.prog 99 = some 1 := by kernel_rfl
@[simp] theorem tyAgg99 : eAgg Go.Proofs.Tryz.prog 99 = some false := by kernel_rfl
@[simp] theorem tyStr99 : eStr Go.Proofs.Tryz.prog 99 = false := by kernel_rfl
@[simp] theorem tyZero99 : eZero Go.Proofs.Tryz.prog 99 = some [.nilFunc] := by kernel_rfl
@[simp] theorem tySz100 : eSz Go.Proofs.Tryz.prog 100 = some 1 := by kernel_rfl
@[simp] theorem tyAgg100 : eAgg Go.Proofs.Tryz.prog 100 = some false := by kernel_rfl
@[simp] theorem tyStr100 : eStr Go.Proofs.Tryz.prog 100 = false := by kernel_rfl
@[simp] theorem tyZero100 : eZero Go.Proofs.Tryz.prog 100 = some [.nilFunc] := by kernel_rfl
@[simp] theorem tySz101 : eSz Go.Proofs.Tryz.prog 101 = some 1 := by kernel_rfl
@[simp] theorem tyAgg101 : eAgg Go.Proofs.Tryz.prog 101 = some false := by kernel_rfl
@[simp] theorem tyStr101 : eStr Go.Proofs.Tryz.prog 101 = false := by kernel_rfl
@[simp] theorem tyZero101 : eZero Go.Proofs.Tryz.prog 101 = some [.nilFunc] := by kernel_rfl
@[simp] theorem tySz102 : eSz Go.Proofs.Tryz.prog 102 = some 1 := by kernel_rfl
@[simp] theorem tyAgg102 : eAgg Go.Proofs.Tryz.prog 102 = some false := by kernel_rfl
@[simp] theorem tyStr102 : eStr Go.Proofs.Tryz.prog 102 = false := by kernel_rfl
@[simp] theorem tyZero102 : eZero Go.Proofs.Tryz.prog 102 = some [.nilFunc] := by kernel_rfl
@[simp] theorem tySz103 : eSz Go.Proofs.Tryz.prog 103 = some 1 := by kernel_rfl
@[simp] theorem tyAgg103 : eAgg Go.Proofs.Tryz.prog 103 = some false := by kernel_rfl
@[simp] theorem tyStr103 : eStr Go.Proofs.Tryz.prog 103 = false := by kernel_rfl
@[simp] theorem tyZero103 : eZero Go.Proofs.Tryz.prog 103 = some [.nilFunc] := by kernel_rfl
@[simp] theorem tySz104 : eSz Go.Proofs.Tryz.prog 104 = some 1 := by kernel_rfl
@[simp] theorem tyAgg104 : eAgg Go.Proofs.Tryz.prog 104 = some false := by kernel_rfl
@[simp] theorem tyStr104 : eStr Go.Proofs.Tryz.prog 104 = false := by kernel_rfl
@[simp] theorem tyZero104 : eZero Go.Proofs.Tryz.prog 104 = some [.nilFunc] := by kernel_rfl
@[simp] theorem tySz105 : eSz Go.Proofs.Tryz.prog 105 = some 1 := by kernel_rfl
@[simp] theorem tyAgg105 : eAgg Go.Proofs.Tryz.prog 105 = some false := by kernel_rfl
@[simp] theorem tyStr105 : eStr Go.Proofs.Tryz.prog 105 = false := by kernel_rfl
@[simp] theorem tyZero105 : eZero Go.Proofs.Tryz.prog 105 = some [.nilFunc] := by kernel_rfl
@[simp] theorem tySz106 : eSz Go.Proofs.Tryz.prog 106 = some 1 := by kernel_rfl
@[simp] theorem tyAgg106 : eAgg Go.Proofs.Tryz.prog 106 = some false := by kernel_rfl
@[simp] theorem tyElem106 : eElem Go.Proofs.Tryz.prog 106 = some (3, 1) := by kernel_rfl
@[simp] theorem tyBytes3 : eBytes Go.Proofs.Tryz.prog 3 = some 8 := by kernel_rfl
@[simp] theorem tyStr106 : eStr Go.Proofs.Tryz.prog 106 = false := by kernel_rfl
@[simp] theorem tyZero106 : eZero Go.Proofs.Tryz.prog 106 = some [.slice none 0 0] := by kernel_rfl
@[simp] theorem tySz107 : eSz Go.Proofs.Tryz.prog 107 = some 1 := by kernel_rfl
@[simp] theorem tyAgg107 : eAgg Go.Proofs.Tryz.prog 107 = some false := by kernel_rfl
@[simp] theorem tyStr107 : eStr Go.Proofs.Tryz.prog 107 = false := by kernel_rfl
@[simp] theorem tyZero107 : eZero Go.Proofs.Tryz.prog 107 = some [.nilFunc] := by kernel_rfl
@[simp] theorem tySz108 : eSz Go.Proofs.Tryz.prog 108 = some 1 := by kernel_rfl
@[simp] theorem tyAgg108 : eAgg Go.Proofs.Tryz.prog 108 = some false := by kernel_rfl
@[simp] theorem tyStr108 : eStr Go.Proofs.Tryz.prog 108 = false := by kernel_rfl
@[simp] theorem tyPtr108 : ePtr Go.Proofs.Tryz.prog 108 = true := by kernel_rfl
@[simp] theorem tyZero108 : eZero Go.Proofs.Tryz.prog 108 = some [.pointer none] := by kernel_rfl
@[simp] theorem tySz109 : eSz Go.Proofs.Tryz.prog 109 = some 2 := by kernel_rfl
@[simp] theorem tyAgg109 : eAgg Go.Proofs.Tryz.prog 109 = some true := by kernel_rfl
@[simp] theorem tyStr109 : eStr Go.Proofs.Tryz.prog 109 = false := by kernel_rfl
@[simp] theorem tyFld109_0 : eFld Go.Proofs.Tryz.prog 109 0 = some (108, 0) := by kernel_rfl
@[simp] theorem tyFld109_1 : eFld Go.Proofs.Tryz.prog 109 1 = some (94, 1) := by kernel_rfl
@[simp] theorem tyPl109 : ePl Go.Proofs.Tryz.prog 109 = some [(0, 1), (1, 1)] := by kernel_rfl
@[simp] theorem tyZero109 : eZero Go.Proofs.Tryz.prog 109 = some [.pointer none, .slice none 0 0] := by kernel_rfl
@[simp] theorem tySz110 : eSz Go.Proofs.Tryz.prog 110 = some 2 := by kernel_rfl
@[simp] theorem tyAgg110 : eAgg Go.Proofs.Tryz.prog 110 = some true := by kernel_rfl
@[simp] theorem tyStr110 : eStr Go.Proofs.Tryz.prog 110 = false := by kernel_rfl
@[simp] theorem tyFld110_0 : eFld Go.Proofs.Tryz.prog 110 0 = some (108, 0) := by kernel_rfl
@[simp] theorem tyFld110_1 : eFld Go.Proofs.Tryz.prog 110 1 = some (94, 1) := by kernel_rfl
@[simp] theorem tyPl110 : ePl Go.Proofs.Tryz.prog 110 = some [(0, 1), (1, 1)] := by kernel_rfl
@[simp] theorem tyZero110 : eZero Go.Proofs.Tryz.prog 110 = some [.pointer none, .slice none 0 0] := by kernel_rfl
@[simp] theorem tySz111 : eSz Go.Proofs.Tryz.prog 111 = some 1 := by kernel_rfl
@[simp] theorem tyAgg111 : eAgg Go.Proofs.Tryz.prog 111 = some false := by kernel_rfl
@[simp] theorem tyStr111 : eStr Go.Proofs.Tryz.prog 111 = false := by kernel_rfl
@[simp] theorem tyZero111 : eZero Go.Proofs.Tryz.prog 111 = some [.nilFunc] := by kernel_rfl
@[simp] theorem tySz112 : eSz Go.Proofs.Tryz.prog 112 = some 1 := by kernel_rfl
@[simp] theorem tyAgg112 : eAgg Go.Proofs.Tryz.prog 112 = some false := by kernel_rfl
@[simp] theorem tyStr112 : eStr Go.Proofs.Tryz.prog 112 = false := by kernel_rfl
@[simp] theorem tyZero112 : eZero Go.Proofs.Tryz.prog 112 = some [.nilFunc] := by kernel_rfl
@[simp] theorem tySz113 : eSz Go.Proofs.Tryz.prog 113 = some 1 := by kernel_rfl
@[simp] theorem tyAgg113 : eAgg Go.Proofs.Tryz.prog 113 = some false := by kernel_rfl
@[simp] theorem tyStr113 : eStr Go.Proofs.Tryz.prog 113 = false := by kernel_rfl
@[simp] theorem tyZero113 : eZero Go.Proofs.Tryz.prog 113 = some [.nilFunc] := by kernel_rfl
@[simp] theorem tySz114 : eSz Go.Proofs.Tryz.prog 114 = some 256 := by kernel_rfl
@[simp] theorem tyAgg114 : eAgg Go.Proofs.Tryz.prog 114 = some true := by kernel_rfl
@[simp] theorem tyStr114 : eStr Go.Proofs.Tryz.prog 114 = false := by kernel_rfl
@[simp] theorem tyArr114 : eArr Go.Proofs.Tryz.prog 114 = some (4, 256, 1) := by kernel_rfl
@[simp] theorem tySz115 : eSz Go.Proofs.Tryz.prog 115 = some 256 := by kernel_rfl
@[simp] theorem tyAgg115 : eAgg Go.Proofs.Tryz.prog 115 = some true := by kernel_rfl
@[simp] theorem tyStr115 : eStr Go.Proofs.Tryz.prog 115 = false := by kernel_rfl
@[simp] theorem tyArr115 : eArr Go.Proofs.Tryz.prog 115 = some (4, 256, 1) := by kernel_rfl
@[simp] theorem tySz116 : eSz Go.Proofs.Tryz.prog 116 = some 1 := by kernel_rfl
@[simp] theorem tyAgg116 : eAgg Go.Proofs.Tryz.prog 116 = some false := by kernel_rfl
@[simp] theorem tyStr116 : eStr Go.Proofs.Tryz.prog 116 = false := by kernel_rfl
@[simp] theorem tySz117 : eSz Go.Proofs.Tryz.prog 117 = some 1 := by kernel_rfl
@[simp] theorem tyAgg117 : eAgg Go.Proofs.Tryz.prog 117 = some false := by kernel_rfl
@[simp] theorem tyStr117 : eStr Go.Proofs.Tryz.prog 117 = false := by kernel_rfl
@[simp] theorem tyZero117 : eZero Go.Proofs.Tryz.prog 117 = some [.nilFunc] := by kernel_rfl
@[simp] theorem tySz118 : eSz Go.Proofs.Tryz.prog 118 = some 1 := by kernel_rfl
@[simp] theorem tyAgg118 : eAgg Go.Proofs.Tryz.prog 118 = some false := by kernel_rfl
@[simp] theorem tyStr118 : eStr Go.Proofs.Tryz.prog 118 = false := by kernel_rfl
@[simp] theorem tyZero118 : eZero Go.Proofs.Tryz.prog 118 = some [.nilFunc] := by kernel_rfl
@[simp] theorem tySz119 : eSz Go.Proofs.Tryz.prog 119 = some 1 := by kernel_rfl
@[simp] theorem tyAgg119 : eAgg Go.Proofs.Tryz.prog 119 = some false := by kernel_rfl
@[simp] theorem tyStr119 : eStr Go.Proofs.Tryz.prog 119 = false := by kernel_rfl
@[simp] theorem tyPtr119 : ePtr Go.Proofs.Tryz.prog 119 = true := by kernel_rfl
@[simp] theorem tyZero119 : eZero Go.Proofs.Tryz.prog 119 = some [.pointer none] := by kernel_rfl
@[simp] theorem tySz120 : eSz Go.Proofs.Tryz.prog 120 = some 1 := by kernel_rfl
@[simp] theorem tyAgg120 : eAgg Go.Proofs.Tryz.prog 120 = some false := by kernel_rfl
@[simp] theorem tyStr120 : eStr Go.Proofs.Tryz.prog 120 = false := by kernel_rfl
@[simp] theorem tyZero120 : eZero Go.Proofs.Tryz.prog 120 = some [.nilFunc] := by kernel_rfl
@[simp] theorem tySz121 : eSz Go.Proofs.Tryz.prog 121 = some 1 := by kernel_rfl
@[simp] theorem tyAgg121 : eAgg Go.Proofs.Tryz.prog 121 = some false := by kernel_rfl
@[simp] theorem tyStr121 : eStr Go.Proofs.Tryz.prog 121 = false := by kernel_rfl
@[simp] theorem tyInt121 : eInt Go.Proofs.Tryz.prog 121 = some .u64 := by kernel_rfl
@[simp] theorem tyZero121 : eZero Go.Proofs.Tryz.prog 121 = some [.int .u64 0] := by kernel_rfl
@[simp] theorem tySz122 : eSz Go.Proofs.Tryz.prog 122 = some 1 := by kernel_rfl
@[simp] theorem tyAgg122 : eAgg Go.Proofs.Tryz.prog 122 = some false := by kernel_rfl
@[simp] theorem tyStr122 : eStr Go.Proofs.Tryz.prog 122 = false := by kernel_rfl
@[simp] theorem tyZero122 : eZero Go.Proofs.Tryz.prog 122 = some [.nilFunc] := by kernel_rfl
@[simp] theorem tySz123 : eSz Go.Proofs.Tryz.prog 123 = some 1 := by kernel_rfl
@[simp] theorem tyAgg123 : eAgg Go.Proofs.Tryz.prog 123 = some false := by kernel_rfl
@[simp] theorem tyStr123 : eStr Go.Proofs.Tryz.prog 123 = false := by kernel_rfl
@[simp] theorem tyZero123 : eZero Go.Proofs.Tryz.prog 123 = some [.nilFunc] := by kernel_rfl
@[simp] theorem tySz124 : eSz Go.Proofs.Tryz.prog 124 = some 1 := by kernel_rfl
@[simp] theorem tyAgg124 : eAgg Go.Proofs.Tryz.prog 124 = some false := by kernel_rfl
@[simp] theorem tyStr124 : eStr Go.Proofs.Tryz.prog 124 = false := by kernel_rfl
@[simp] theorem tyPtr124 : ePtr Go.Proofs.Tryz.prog 124 = true := by kernel_rfl
@[simp] theorem tyZero124 : eZero Go.Proofs.Tryz.prog 124 = some [.pointer none] := by kernel_rfl
@[simp] theorem tySz125 : eSz Go.Proofs.Tryz.prog 125 = some 3 := by kernel_rfl
@[simp] theorem tyAgg125 : eAgg Go.Proofs.Tryz.prog 125 = some true := by kernel_rfl
@[simp] theorem tyStr125 : eStr Go.Proofs.Tryz.prog 125 = false := by kernel_rfl
@[simp] theorem tyFld125_0 : eFld Go.Proofs.Tryz.prog 125 0 = some (9, 0) := by kernel_rfl
@[simp] theorem tyFld125_1 : eFld Go.Proofs.Tryz.prog 125 1 = some (3, 1) := by kernel_rfl
@[simp] theorem tyFld125_2 : eFld Go.Proofs.Tryz.prog 125 2 = some (3, 2) := by kernel_rfl
@[simp] theorem tyPl125 : ePl Go.Proofs.Tryz.prog 125 = some [(0, 1), (1, 1), (2, 1)] := by kernel_rfl
@[simp] theorem tyZero125 : eZero Go.Proofs.Tryz.prog 125 = some [.string .empty, .int .i64 0, .int .i64 0] := by kernel_rfl
@[simp] theorem tySz126 : eSz Go.Proofs.Tryz.prog 126 = some 3 := by kernel_rfl
@[simp] theorem tyAgg126 : eAgg Go.Proofs.Tryz.prog 126 = some true := by kernel_rfl
@[simp] theorem tyStr126 : eStr Go.Proofs.Tryz.prog 126 = false := by kernel_rfl
@[simp] theorem tyFld126_0 : eFld Go.Proofs.Tryz.prog 126 0 = some (9, 0) := by kernel_rfl
@[simp] theorem tyFld126_1 : eFld Go.Proofs.Tryz.prog 126 1 = some (3, 1) := by kernel_rfl
@[simp] theorem tyFld126_2 : eFld Go.Proofs.Tryz.prog 126 2 = some (3, 2) := by kernel_rfl
@[simp] theorem tyPl126 : ePl Go.Proofs.Tryz.prog 126 = some [(0, 1), (1, 1), (2, 1)] := by kernel_rfl
@[simp] theorem tyZero126 : eZero Go.Proofs.Tryz.prog 126 = some [.string .empty, .int .i64 0, .int .i64 0] := by kernel_rfl
@[simp] theorem tySz127 : eSz Go.Proofs.Tryz.prog 127 = some 1 := by kernel_rfl
@[simp] theorem tyAgg127 : eAgg Go.Proofs.Tryz.prog 127 = some false := by kernel_rfl
@[simp] theorem tyStr127 : eStr Go.Proofs.Tryz.prog 127 = false := by kernel_rfl
@[simp] theorem tyZero127 : eZero Go.Proofs.Tryz.prog 127 = some [.nilFunc] := by kernel_rfl
@[simp] theorem tySz128 : eSz Go.Proofs.Tryz.prog 128 = some 1 := by kernel_rfl
@[simp] theorem tyAgg128 : eAgg Go.Proofs.Tryz.prog 128 = some false := by kernel_rfl
@[simp] theorem tyStr128 : eStr Go.Proofs.Tryz.prog 128 = false := by kernel_rfl
@[simp] theorem tyZero128 : eZero Go.Proofs.Tryz.prog 128 = some [.nilFunc] := by kernel_rfl
@[simp] theorem tySz129 : eSz Go.Proofs.Tryz.prog 129 = some 1 := by kernel_rfl
@[simp] theorem tyAgg129 : eAgg Go.Proofs.Tryz.prog 129 = some false := by kernel_rfl
@[simp] theorem tyStr129 : eStr Go.Proofs.Tryz.prog 129 = false := by kernel_rfl
@[simp] theorem tyZero129 : eZero Go.Proofs.Tryz.prog 129 = some [.nilFunc] := by kernel_rfl
@[simp] theorem tySz130 : eSz Go.Proofs.Tryz.prog 130 = some 1 := by kernel_rfl
@[simp] theorem tyAgg130 : eAgg Go.Proofs.Tryz.prog 130 = some false := by kernel_rfl
@[simp] theorem tyStr130 : eStr Go.Proofs.Tryz.prog 130 = false := by kernel_rfl
@[simp] theorem tyZero130 : eZero Go.Proofs.Tryz.prog 130 = some [.nilFunc] := by kernel_rfl
@[simp] theorem tySz131 : eSz Go.Proofs.Tryz.prog 131 = some 1 := by kernel_rfl
@[simp] theorem tyAgg131 : eAgg Go.Proofs.Tryz.prog 131 = some false := by kernel_rfl
@[simp] theorem tyStr131 : eStr Go.Proofs.Tryz.prog 131 = false := by kernel_rfl
@[simp] theorem tyZero131 : eZero Go.Proofs.Tryz.prog 131 = some [.nilFunc] := by kernel_rfl
@[simp] theorem tySz132 : eSz Go.Proofs.Tryz.prog 132 = some 1 := by kernel_rfl
@[simp] theorem tyAgg132 : eAgg Go.Proofs.Tryz.prog 132 = some false := by kernel_rfl
@[simp] theorem tyStr132 : eStr Go.Proofs.Tryz.prog 132 = false := by kernel_rfl
@[simp] theorem tyPtr132 : ePtr Go.Proofs.Tryz.prog 132 = true := by kernel_rfl
@[simp] theorem tyZero132 : eZero Go.Proofs.Tryz.prog 132 = some [.pointer none] := by kernel_rfl
@[simp] theorem tySz133 : eSz Go.Proofs.Tryz.prog 133 = some 1 := by kernel_rfl
@[simp] theorem tyAgg133 : eAgg Go.Proofs.Tryz.prog 133 = some false := by kernel_rfl
@[simp] theorem tyStr133 : eStr Go.Proofs.Tryz.prog 133 = false := by kernel_rfl
@[simp] theorem tySz134 : eSz Go.Proofs.Tryz.prog 134 = some 1 := by kernel_rfl
@[simp] theorem tyAgg134 : eAgg Go.Proofs.Tryz.prog 134 = some false := by kernel_rfl
@[simp] theorem tyStr134 : eStr Go.Proofs.Tryz.prog 134 = false := by kernel_rfl
@[simp] theorem tyZero134 : eZero Go.Proofs.Tryz.prog 134 = some [.nilFunc] := by kernel_rfl
@[simp] theorem tySz135 : eSz Go.Proofs.Tryz.prog 135 = some 1 := by kernel_rfl
@[simp] theorem tyAgg135 : eAgg Go.Proofs.Tryz.prog 135 = some false := by kernel_rfl
@[simp] theorem tyStr135 : eStr Go.Proofs.Tryz.prog 135 = false := by kernel_rfl
@[simp] theorem tyZero135 : eZero Go.Proofs.Tryz.prog 135 = some [.nilFunc] := by kernel_rfl
@[simp] theorem tySz136 : eSz Go.Proofs.Tryz.prog 136 = some 1 := by kernel_rfl
@[simp] theorem tyAgg136 : eAgg Go.Proofs.Tryz.prog 136 = some false := by kernel_rfl
@[simp] theorem tyStr136 : eStr Go.Proofs.Tryz.prog 136 = false := by kernel_rfl
@[simp] theorem tyInt136 : eInt Go.Proofs.Tryz.prog 136 = some .i64 := by kernel_rfl
@[simp] theorem tyZero136 : eZero Go.Proofs.Tryz.prog 136 = some [.int .i64 0] := by kernel_rfl
@[simp] theorem tySz137 : eSz Go.Proofs.Tryz.prog 137 = some 1 := by kernel_rfl
@[simp] theorem tyAgg137 : eAgg Go.Proofs.Tryz.prog 137 = some false := by kernel_rfl
@[simp] theorem tyStr137 : eStr Go.Proofs.Tryz.prog 137 = false := by kernel_rfl
@[simp] theorem tySz138 : eSz Go.Proofs.Tryz.prog 138 = some 1 := by kernel_rfl
@[simp] theorem tyAgg138 : eAgg Go.Proofs.Tryz.prog 138 = some false := by kernel_rfl
@[simp] theorem tyStr138 : eStr Go.Proofs.Tryz.prog 138 = false := by kernel_rfl
@[simp] theorem tyZero138 : eZero Go.Proofs.Tryz.prog 138 = some [.nilFunc] := by kernel_rfl
@[simp] theorem tySz139 : eSz Go.Proofs.Tryz.prog 139 = some 1 := by kernel_rfl
@[simp] theorem tyAgg139 : eAgg Go.Proofs.Tryz.prog 139 = some false := by kernel_rfl
@[simp] theorem tyStr139 : eStr Go.Proofs.Tryz.prog 139 = false := by kernel_rfl
@[simp] theorem tyPtr139 : ePtr Go.Proofs.Tryz.prog 139 = true := by kernel_rfl
@[simp] theorem tyZero139 : eZero Go.Proofs.Tryz.prog 139 = some [.pointer none] := by kernel_rfl
@[simp] theorem tySz140 : eSz Go.Proofs.Tryz.prog 140 = some 1 := by kernel_rfl
@[simp] theorem tyAgg140 : eAgg Go.Proofs.Tryz.prog 140 = some false := by kernel_rfl
@[simp] theorem tyStr140 : eStr Go.Proofs.Tryz.prog 140 = false := by kernel_rfl
@[simp] theorem tyZero140 : eZero Go.Proofs.Tryz.prog 140 = some [.nilFunc] := by kernel_rfl
@[simp] theorem tySz141 : eSz Go.Proofs.Tryz.prog 141 = some 1 := by kernel_rfl
@[simp] theorem tyAgg141 : eAgg Go.Proofs.Tryz.prog 141 = some false := by kernel_rfl
@[simp] theorem tyStr141 : eStr Go.Proofs.Tryz.prog 141 = false := by kernel_rfl
@[simp] theorem tyZero141 : eZero Go.Proofs.Tryz.prog 141 = some [.nilFunc] := by kernel_rfl
@[simp] theorem tySz142 : eSz Go.Proofs.Tryz.prog 142 = some 1 := by kernel_rfl
@[simp] theorem tyAgg142 : eAgg Go.Proofs.Tryz.prog 142 = some false := by kernel_rfl
@[simp] theorem tyStr142 : eStr Go.Proofs.Tryz.prog 142 = false := by kernel_rfl
@[simp] theorem tyZero142 : eZero Go.Proofs.Tryz.prog 142 = some [.nilFunc] := by kernel_rfl
@[simp] theorem tySz143 : eSz Go.Proofs.Tryz.prog 143 = some 1 := by kernel_rfl
@[simp] theorem tyAgg143 : eAgg Go.Proofs.Tryz.prog 143 = some false := by kernel_rfl
@[simp] theorem tyStr143 : eStr Go.Proofs.Tryz.prog 143 = false := by kernel_rfl
@[simp] theorem tyZero143 : eZero Go.Proofs.Tryz.prog 143 = some [.nilFunc] := by kernel_rfl
@[simp] theorem tySz144 : eSz Go.Proofs.Tryz.prog 144 = some 1 := by kernel_rfl
@[simp] theorem tyAgg144 : eAgg Go.Proofs.Tryz.prog 144 = some false := by kernel_rfl
@[simp] theorem tyStr144 : eStr Go.Proofs.Tryz.prog 144 = false := by kernel_rfl
@[simp] theorem tyZero144 : eZero Go.Proofs.Tryz.prog 144 = some [.nilFunc] := by kernel_rfl
@[simp] theorem tySz145 : eSz Go.Proofs.Tryz.prog 145 = some 1 := by kernel_rfl
@[simp] theorem tyAgg145 : eAgg Go.Proofs.Tryz.prog 145 = some false := by kernel_rfl
@[simp] theorem tyStr145 : eStr Go.Proofs.Tryz.prog 145 = false := by kernel_rfl
@[simp] theorem tyZero145 : eZero Go.Proofs.Tryz.prog 145 = some [.nilFunc] := by kernel_rfl
@[simp] theorem tySz146 : eSz Go.Proofs.Tryz.prog 146 = some 1 := by kernel_rfl
@[simp] theorem tyAgg146 : eAgg Go.Proofs.Tryz.prog 146 = some false := by kernel_rfl
@[simp] theorem tyStr146 : eStr Go.Proofs.Tryz.prog 146 = false := by kernel_rfl
@[simp] theorem tyZero146 : eZero Go.Proofs.Tryz.prog 146 = some [.nilFunc] := by kernel_rfl
@[simp] theorem tySz147 : eSz Go.Proofs.Tryz.prog 147 = some 1 := by kernel_rfl
@[simp] theorem tyAgg147 : eAgg Go.Proofs.Tryz.prog 147 = some false := by kernel_rfl
@[simp] theorem tyStr147 : eStr Go.Proofs.Tryz.prog 147 = false := by kernel_rfl
@[simp] theorem tyZero147 : eZero Go.Proofs.Tryz.prog 147 = some [.nilFunc] := by kernel_rfl
@[simp] theorem tySz148 : eSz Go.Proofs.Tryz.prog 148 = some 1 := by kernel_rfl
@[simp] theorem tyAgg148 : eAgg Go.Proofs.Tryz.prog 148 = some false := by kernel_rfl
@[simp] theorem tyStr148 : eStr Go.Proofs.Tryz.prog 148 = false := by kernel_rfl
@[simp] theorem tyZero148 : eZero Go.Proofs.Tryz.prog 148 = some [.nilFunc] := by kernel_rfl
@[simp] theorem tySz149 : eSz Go.Proofs.Tryz.prog 149 = some 1 := by kernel_rfl
@[simp] theorem tyAgg149 : eAgg Go.Proofs.Tryz.prog 149 = some false := by kernel_rfl
@[simp] theorem tyStr149 : eStr Go.Proofs.Tryz.prog 149 = false := by kernel_rfl
@[simp] theorem tyZero149 : eZero Go.Proofs.Tryz.prog 149 = some [.pointer none] := by kernel_rfl
@[simp] theorem tySz150 : eSz Go.Proofs.Tryz.prog 150 = some 1 := by kernel_rfl
@[simp] theorem tyAgg150 : eAgg Go.Proofs.Tryz.prog 150 = some false := by kernel_rfl
@[simp] theorem tyStr150 : eStr Go.Proofs.Tryz.prog 150 = false := by kernel_rfl
@[simp] theorem tyZero150 : eZero Go.Proofs.Tryz.prog 150 = some [.nilFunc] := by kernel_rfl
@[simp] theorem tySz151 : eSz Go.Proofs.Tryz.prog 151 = some 1 := by kernel_rfl
@[simp] theorem tyAgg151 : eAgg Go.Proofs.Tryz.prog 151 = some false := by kernel_rfl
@[simp] theorem tyStr151 : eStr Go.Proofs.Tryz.prog 151 = false := by kernel_rfl
@[simp] theorem tyZero151 : eZero Go.Proofs.Tryz.prog 151 = some [.nilFunc] := by kernel_rfl
@[simp] theorem tySz152 : eSz Go.Proofs.Tryz.prog 152 = some 1 := by kernel_rfl
@[simp] theorem tyAgg152 : eAgg Go.Proofs.Tryz.prog 152 = some false := by kernel_rfl
@[simp] theorem tyStr152 : eStr Go.Proofs.Tryz.prog 152 = false := by kernel_rfl
@[simp] theorem tyInt152 : eInt Go.Proofs.Tryz.prog 152 = some .u64 := by kernel_rfl
@[simp] theorem tyZero152 : eZero Go.Proofs.Tryz.prog 152 = some [.int .u64 0] := by kernel_rfl
@[simp] theorem tySz153 : eSz Go.Proofs.Tryz.prog 153 = some 1 := by kernel_rfl
@[simp] theorem tyAgg153 : eAgg Go.Proofs.Tryz.prog 153 = some false := by kernel_rfl
@[simp] theorem tyStr153 : eStr Go.Proofs.Tryz.prog 153 = false := by kernel_rfl
@[simp] theorem tySz154 : eSz Go.Proofs.Tryz.prog 154 = some 1 := by kernel_rfl
@[simp] theorem tyAgg154 : eAgg Go.Proofs.Tryz.prog 154 = some false := by kernel_rfl
@[simp] theorem tyStr154 : eStr Go.Proofs.Tryz.prog 154 = false := by kernel_rfl
@[simp] theorem tyZero154 : eZero Go.Proofs.Tryz.prog 154 = some [.nilFunc] := by kernel_rfl
@[simp] theorem tySz155 : eSz Go.Proofs.Tryz.prog 155 = some 3 := by kernel_rfl
@[simp] theorem tyAgg155 : eAgg Go.Proofs.Tryz.prog 155 = some true := by kernel_rfl
@[simp] theorem tyStr155 : eStr Go.Proofs.Tryz.prog 155 = false := by kernel_rfl
@[simp] theorem tyFld155_0 : eFld Go.Proofs.Tryz.prog 155 0 = some (9, 0) := by kernel_rfl
@[simp] theorem tyFld155_1 : eFld Go.Proofs.Tryz.prog 155 1 = some (9, 1) := by kernel_rfl
@[simp] theorem tyFld155_2 : eFld Go.Proofs.Tryz.prog 155 2 = some (90, 2) := by kernel_rfl
@[simp] theorem tyPl155 : ePl Go.Proofs.Tryz.prog 155 = some [(0, 1), (1, 1), (2, 1)] := by kernel_rfl
@[simp] theorem tyZero155 : eZero Go.Proofs.Tryz.prog 155 = some [.string .empty, .string .empty, .nilIface] := by kernel_rfl
@[simp] theorem tySz156 : eSz Go.Proofs.Tryz.prog 156 = some 3 := by kernel_rfl
@[simp] theorem tyAgg156 : eAgg Go.Proofs.Tryz.prog 156 = some true := by kernel_rfl
@[simp] theorem tyStr156 : eStr Go.Proofs.Tryz.prog 156 = false := by kernel_rfl
@[simp] theorem tyFld156_0 : eFld Go.Proofs.Tryz.prog 156 0 = some (9, 0) := by kernel_rfl
@[simp] theorem tyFld156_1 : eFld Go.Proofs.Tryz.prog 156 1 = some (9, 1) := by kernel_rfl
@[simp] theorem tyFld156_2 : eFld Go.Proofs.Tryz.prog 156 2 = some (90, 2) := by kernel_rfl
@[simp] theorem tyPl156 : ePl Go.Proofs.Tryz.prog 156 = some [(0, 1), (1, 1), (2, 1)] := by kernel_rfl
@[simp] theorem tyZero156 : eZero Go.Proofs.Tryz.prog 156 = some [.string .empty, .string .empty, .nilIface] := by kernel_rfl
@[simp] theorem tySz157 : eSz Go.Proofs.Tryz.prog 157 = some 1 := by kernel_rfl
@[simp] theorem tyAgg157 : eAgg Go.Proofs.Tryz.prog 157 = some false := by kernel_rfl
@[simp] theorem tyStr157 : eStr Go.Proofs.Tryz.prog 157 = false := by kernel_rfl
@[simp] theorem tyZero157 : eZero Go.Proofs.Tryz.prog 157 = some [.nilFunc] := by kernel_rfl
@[simp] theorem tySz158 : eSz Go.Proofs.Tryz.prog 158 = some 24 := by kernel_rfl
@[simp] theorem tyAgg158 : eAgg Go.Proofs.Tryz.prog 158 = some true := by kernel_rfl
@[simp] theorem tyStr158 : eStr Go.Proofs.Tryz.prog 158 = false := by kernel_rfl
@[simp] theorem tyArr158 : eArr Go.Proofs.Tryz.prog 158 = some (5, 24, 1) := by kernel_rfl
@[simp] theorem tyZero158 : eZero Go.Proofs.Tryz.prog 158 = some [.int .u8 0, .int .u8 0, .int .u8 0, .int .u8 0, .int .u8 0, .int .u8 0, .int .u8 0, .int .u8 0, .int .u8 0, .int .u8 0, .int .u8 0, .int .u8 0, .int .u8 0, .int .u8 0, .int .u8 0, .int .u8 0, .int .u8 0, .int .u8 0, .int .u8 0, .int .u8 0, .int .u8 0, .int .u8 0, .int .u8 0, .int .u8 0] := by kernel_rfl
@[simp] theorem tySz159 : eSz Go.Proofs.Tryz.prog 159 = some 1 := by kernel_rfl
@[simp] theorem tyAgg159 : eAgg Go.Proofs.Tryz.prog 159 = some false := by kernel_rfl
@[simp] theorem tyStr159 : eStr Go.Proofs.Tryz.prog 159 = false := by kernel_rfl
@[simp] theorem tyZero159 : eZero Go.Proofs.Tryz.prog 159 = some [.nilFunc] := by kernel_rfl
@[simp] theorem tySz160 : eSz Go.Proofs.Tryz.prog 160 = some 1 := by kernel_rfl
@[simp] theorem tyAgg160 : eAgg Go.Proofs.Tryz.prog 160 = some false := by kernel_rfl
@[simp] theorem tyStr160 : eStr Go.Proofs.Tryz.prog 160 = false := by kernel_rfl
@[simp] theorem tyZero160 : eZero Go.Proofs.Tryz.prog 160 = some [.nilFunc] := by kernel_rfl
@[simp] theorem tySz161 : eSz Go.Proofs.Tryz.prog 161 = some 1 := by kernel_rfl
@[simp] theorem tyAgg161 : eAgg Go.Proofs.Tryz.prog 161 = some false := by kernel_rfl
@[simp] theorem tyStr161 : eStr Go.Proofs.Tryz.prog 161 = false := by kernel_rfl
@[simp] theorem tySz162 : eSz Go.Proofs.Tryz.prog 162 = some 1 := by kernel_rfl
@[simp] theorem tyAgg162 : eAgg Go.Proofs.Tryz.prog 162 = some false := by kernel_rfl
@[simp] theorem tyStr162 : eStr Go.Proofs.Tryz.prog 162 = false := by kernel_rfl
@[simp] theorem tyZero162 : eZero Go.Proofs.Tryz.prog 162 = some [.nilFunc] := by kernel_rfl
@[simp] theorem tySz163 : eSz Go.Proofs.Tryz.prog 163 = some 1 := by kernel_rfl
@[simp] theorem tyAgg163 : eAgg Go.Proofs.Tryz.prog 163 = some false := by kernel_rfl
@[simp] theorem tyStr163 : eStr Go.Proofs.Tryz.prog 163 = false := by kernel_rfl
@[simp] theorem tyZero163 : eZero Go.Proofs.Tryz.prog 163 = some [.nilFunc] := by kernel_rfl
@[simp] theorem tySz164 : eSz Go.Proofs.Tryz.prog 164 = some 1 := by kernel_rfl
@[simp] theorem tyAgg164 : eAgg Go.Proofs.Tryz.prog 164 = some false := by kernel_rfl
@[simp] theorem tyStr164 : eStr Go.Proofs.Tryz.prog 164 = false := by kernel_rfl
@[simp] theorem tyInt164 : eInt Go.Proofs.Tryz.prog 164 = some .i64 := by kernel_rfl
@[simp] theorem tyZero164 : eZero Go.Proofs.Tryz.prog 164 = some [.int .i64 0] := by kernel_rfl
@[simp] theorem tySz165 : eSz Go.Proofs.Tryz.prog 165 = some 1 := by kernel_rfl
@[simp] theorem tyAgg165 : eAgg Go.Proofs.Tryz.prog 165 = some false := by kernel_rfl
@[simp] theorem tyStr165 : eStr Go.Proofs.Tryz.prog 165 = false := by kernel_rfl
@[simp] theorem tySz166 : eSz Go.Proofs.Tryz.prog 166 = some 1 := by kernel_rfl
@[simp] theorem tyAgg166 : eAgg Go.Proofs.Tryz.prog 166 = some false := by kernel_rfl
@[simp] theorem tyStr166 : eStr Go.Proofs.Tryz.prog 166 = false := by kernel_rfl
@[simp] theorem tyZero166 : eZero Go.Proofs.Tryz.prog 166 = some [.nilFunc] := by kernel_rfl
@[simp] theorem tySz167 : eSz Go.Proofs.Tryz.prog 167 = some 1 := by kernel_rfl
@[simp] theorem tyAgg167 : eAgg Go.Proofs.Tryz.prog 167 = some false := by kernel_rfl
@[simp] theorem tyStr167 : eStr Go.Proofs.Tryz.prog 167 = false := by kernel_rfl
@[simp] theorem tyZero167 : eZero Go.Proofs.Tryz.prog 167 = some [.nilFunc] := by kernel_rfl
@[simp] theorem tySz168 : eSz Go.Proofs.Tryz.prog 168 = some 1 := by kernel_rfl
@[simp] theorem tyAgg168 : eAgg Go.Proofs.Tryz.prog 168 = some false := by kernel_rfl
@[simp] theorem tyStr168 : eStr Go.Proofs.Tryz.prog 168 = false := by kernel_rfl
@[simp] theorem tyZero168 : eZero Go.Proofs.Tryz.prog 168 = some [.nilFunc] := by kernel_rfl
@[simp] theorem tySz169 : eSz Go.Proofs.Tryz.prog 169 = some 1 := by kernel_rfl
@[simp] theorem tyAgg169 : eAgg Go.Proofs.Tryz.prog 169 = some false := by kernel_rfl
@[simp] theorem tyStr169 : eStr Go.Proofs.Tryz.prog 169 = false := by kernel_rfl
@[simp] theorem tyZero169 : eZero Go.Proofs.Tryz.prog 169 = some [.nilFunc] := by kernel_rfl
@[simp] theorem tySz170 : eSz Go.Proofs.Tryz.prog 170 = some 1 := by kernel_rfl
@[simp] theorem tyAgg170 : eAgg Go.Proofs.Tryz.prog 170 = some false := by kernel_rfl
@[simp] theorem tyStr170 : eStr Go.Proofs.Tryz.prog 170 = false := by kernel_rfl
@[simp] theorem tyZero170 : eZero Go.Proofs.Tryz.prog 170 = some [.nilFunc] := by kernel_rfl
@[simp] theorem tySz171 : eSz Go.Proofs.Tryz.prog 171 = some 1 := by kernel_rfl
@[simp] theorem tyAgg171 : eAgg Go.Proofs.Tryz.prog 171 = some false := by kernel_rfl
@[simp] theorem tyStr171 : eStr Go.Proofs.Tryz.prog 171 = false := by kernel_rfl
@[simp] theorem tyInt171 : eInt Go.Proofs.Tryz.prog 171 = some .u32 := by kernel_rfl
@[simp] theorem tyZero171 : eZero Go.Proofs.Tryz.prog 171 = some [.int .u32 0] := by kernel_rfl
@[simp] theorem tySz172 : eSz Go.Proofs.Tryz.prog 172 = some 1 := by kernel_rfl
@[simp] theorem tyAgg172 : eAgg Go.Proofs.Tryz.prog 172 = some false := by kernel_rfl
@[simp] theorem tyStr172 : eStr Go.Proofs.Tryz.prog 172 = false := by kernel_rfl
@[simp] theorem tySz173 : eSz Go.Proofs.Tryz.prog 173 = some 1 := by kernel_rfl
@[simp] theorem tyAgg173 : eAgg Go.Proofs.Tryz.prog 173 = some false := by kernel_rfl
@[simp] theorem tyStr173 : eStr Go.Proofs.Tryz.prog 173 = false := by kernel_rfl
@[simp] theorem tyZero173 : eZero Go.Proofs.Tryz.prog 173 = some [.nilFunc] := by kernel_rfl
@[simp] theorem tySz174 : eSz Go.Proofs.Tryz.prog 174 = some 256 := by kernel_rfl
@[simp] theorem tyAgg174 : eAgg Go.Proofs.Tryz.prog 174 = some true := by kernel_rfl
@[simp] theorem tyStr174 : eStr Go.Proofs.Tryz.prog 174 = false := by kernel_rfl
@[simp] theorem tyArr174 : eArr Go.Proofs.Tryz.prog 174 = some (5, 256, 1) := by kernel_rfl
@[simp] theorem tySz175 : eSz Go.Proofs.Tryz.prog 175 = some 2 := by kernel_rfl
@[simp] theorem tyAgg175 : eAgg Go.Proofs.Tryz.prog 175 = some true := by kernel_rfl
@[simp] theorem tyStr175 : eStr Go.Proofs.Tryz.prog 175 = false := by kernel_rfl
@[simp] theorem tyFld175_0 : eFld Go.Proofs.Tryz.prog 175 0 = some (5, 0) := by kernel_rfl
@[simp] theorem tyFld175_1 : eFld Go.Proofs.Tryz.prog 175 1 = some (5, 1) := by kernel_rfl
@[simp] theorem tyPl175 : ePl Go.Proofs.Tryz.prog 175 = some [(0, 1), (1, 1)] := by kernel_rfl
@[simp] theorem tyZero175 : eZero Go.Proofs.Tryz.prog 175 = some [.int .u8 0, .int .u8 0] := by kernel_rfl
@[simp] theorem tySz176 : eSz Go.Proofs.Tryz.prog 176 = some 2 := by kernel_rfl
@[simp] theorem tyAgg176 : eAgg Go.Proofs.Tryz.prog 176 = some true := by kernel_rfl
@[simp] theorem tyStr176 : eStr Go.Proofs.Tryz.prog 176 = false := by kernel_rfl
@[simp] theorem tyFld176_0 : eFld Go.Proofs.Tryz.prog 176 0 = some (5, 0) := by kernel_rfl
@[simp] theorem tyFld176_1 : eFld Go.Proofs.Tryz.prog 176 1 = some (5, 1) := by kernel_rfl
@[simp] theorem tyPl176 : ePl Go.Proofs.Tryz.prog 176 = some [(0, 1), (1, 1)] := by kernel_rfl
@[simp] theorem tyZero176 : eZero Go.Proofs.Tryz.prog 176 = some [.int .u8 0, .int .u8 0] := by kernel_rfl
@[simp] theorem tySz177 : eSz Go.Proofs.Tryz.prog 177 = some 32 := by kernel_rfl
@[simp] theorem tyAgg177 : eAgg Go.Proofs.Tryz.prog 177 = some true := by kernel_rfl
@[simp] theorem tyStr177 : eStr Go.Proofs.Tryz.prog 177 = false := by kernel_rfl
@[simp] theorem tyArr177 : eArr Go.Proofs.Tryz.prog 177 = some (176, 16, 2) := by kernel_rfl
@[simp] theorem tyPl177 : ePl Go.Proofs.Tryz.prog 177 = some [(0, 2), (2, 2), (4, 2), (6, 2), (8, 2), (10, 2), (12, 2), (14, 2), (16, 2), (18, 2), (20, 2), (22, 2), (24, 2), (26, 2), (28, 2), (30, 2)] := by kernel_rfl
@[simp] theorem tyZero177 : eZero Go.Proofs.Tryz.prog 177 = some [.int .u8 0, .int .u8 0, .int .u8 0, .int .u8 0, .int .u8 0, .int .u8 0, .int .u8 0, .int .u8 0, .int .u8 0, .int .u8 0, .int .u8 0, .int .u8 0, .int .u8 0, .int .u8 0, .int .u8 0, .int .u8 0, .int .u8 0, .int .u8 0, .int .u8 0, .int .u8 0, .int .u8 0, .int .u8 0, .int .u8 0, .int .u8 0, .int .u8 0, .int .u8 0, .int .u8 0, .int .u8 0, .int .u8 0, .int .u8 0, .int .u8 0, .int .u8 0] := by kernel_rfl
@[simp] theorem tySz178 : eSz Go.Proofs.Tryz.prog 178 = some 1 := by kernel_rfl
@[simp] theorem tyAgg178 : eAgg Go.Proofs.Tryz.prog 178 = some false := by kernel_rfl
@[simp] theorem tyStr178 : eStr Go.Proofs.Tryz.prog 178 = false := by kernel_rfl
@[simp] theorem tyPtr178 : ePtr Go.Proofs.Tryz.prog 178 = true := by kernel_rfl
@[simp] theorem tyZero178 : eZero Go.Proofs.Tryz.prog 178 = some [.pointer none] := by kernel_rfl
@[simp] theorem tySz179 : eSz Go.Proofs.Tryz.prog 179 = some 1 := by kernel_rfl
@[simp] theorem tyAgg179 : eAgg Go.Proofs.Tryz.prog 179 = some true := by kernel_rfl
@[simp] theorem tyStr179 : eStr Go.Proofs.Tryz.prog 179 = false := by kernel_rfl
@[simp] theorem tyFld179_0 : eFld Go.Proofs.Tryz.prog 179 0 = some (9, 0) := by kernel_rfl
@[simp] theorem tyPl179 : ePl Go.Proofs.Tryz.prog 179 = some [(0, 1)] := by kernel_rfl
@[simp] theorem tyZero179 : eZero Go.Proofs.Tryz.prog 179 = some [.string .empty] := by kernel_rfl
@[simp] theorem tySz180 : eSz Go.Proofs.Tryz.prog 180 = some 1 := by kernel_rfl
@[simp] theorem tyAgg180 : eAgg Go.Proofs.Tryz.prog 180 = some true := by kernel_rfl
@[simp] theorem tyStr180 : eStr Go.Proofs.Tryz.prog 180 = false := by kernel_rfl
@[simp] theorem tyFld180_0 : eFld Go.Proofs.Tryz.prog 180 0 = some (9, 0) := by kernel_rfl
@[simp] theorem tyPl180 : ePl Go.Proofs.Tryz.prog 180 = some [(0, 1)] := by kernel_rfl
@[simp] theorem tyZero180 : eZero Go.Proofs.Tryz.prog 180 = some [.string .empty] := by kernel_rfl
@[simp] theorem tySz181 : eSz Go.Proofs.Tryz.prog 181 = some 1 := by kernel_rfl
@[simp] theorem tyAgg181 : eAgg Go.Proofs.Tryz.prog 181 = some false := by kernel_rfl
@[simp] theorem tyStr181 : eStr Go.Proofs.Tryz.prog 181 = false := by kernel_rfl
@[simp] theorem tyZero181 : eZero Go.Proofs.Tryz.prog 181 = some [.nilFunc] := by kernel_rfl
@[simp] theorem tySz182 : eSz Go.Proofs.Tryz.prog 182 = some 20 := by kernel_rfl
@[simp] theorem tyAgg182 : eAgg Go.Proofs.Tryz.prog 182 = some true := by kernel_rfl
@[simp] theorem tyStr182 : eStr Go.Proofs.Tryz.prog 182 = false := by kernel_rfl
@[simp] theorem tyArr182 : eArr Go.Proofs.Tryz.prog 182 = some (152, 20, 1) := by kernel_rfl
@[simp] theorem tyZero182 : eZero Go.Proofs.Tryz.prog 182 = some [.int .u64 0, .int .u64 0, .int .u64 0, .int .u64 0, .int .u64 0, .int .u64 0, .int .u64 0, .int .u64 0, .int .u64 0, .int .u64 0, .int .u64 0, .int .u64 0, .int .u64 0, .int .u64 0, .int .u64 0, .int .u64 0, .int .u64 0, .int .u64 0, .int .u64 0, .int .u64 0] := by kernel_rfl
@[simp] theorem tySz183 : eSz Go.Proofs.Tryz.prog 183 = some 65 := by kernel_rfl
@[simp] theorem tyAgg183 : eAgg Go.Proofs.Tryz.prog 183 = some true := by kernel_rfl
@[simp] theorem tyStr183 : eStr Go.Proofs.Tryz.prog 183 = false := by kernel_rfl
@[simp] theorem tyArr183 : eArr Go.Proofs.Tryz.prog 183 = some (5, 65, 1) := by kernel_rfl
@[simp] theorem tySz184 : eSz Go.Proofs.Tryz.prog 184 = some 1 := by kernel_rfl
@[simp] theorem tyAgg184 : eAgg Go.Proofs.Tryz.prog 184 = some false := by kernel_rfl
@[simp] theorem tyStr184 : eStr Go.Proofs.Tryz.prog 184 = false := by kernel_rfl
@[simp] theorem tyInt184 : eInt Go.Proofs.Tryz.prog 184 = some .u64 := by kernel_rfl
@[simp] theorem tyZero184 : eZero Go.Proofs.Tryz.prog 184 = some [.int .u64 0] := by kernel_rfl
@[simp] theorem tySz185 : eSz Go.Proofs.Tryz.prog 185 = some 1 := by kernel_rfl
@[simp] theorem tyAgg185 : eAgg Go.Proofs.Tryz.prog 185 = some false := by kernel_rfl
@[simp] theorem tyStr185 : eStr Go.Proofs.Tryz.prog 185 = false := by kernel_rfl
@[simp] theorem tyZero185 : eZero Go.Proofs.Tryz.prog 185 = some [.nilFunc] := by kernel_rfl
@[simp] theorem tySz186 : eSz Go.Proofs.Tryz.prog 186 = some 1 := by kernel_rfl
@[simp] theorem tyAgg186 : eAgg Go.Proofs.Tryz.prog 186 = some false := by kernel_rfl
@[simp] theorem tyStr186 : eStr Go.Proofs.Tryz.prog 186 = false := by kernel_rfl
@[simp] theorem tyZero186 : eZero Go.Proofs.Tryz.prog 186 = some [.nilFunc] := by kernel_rfl
@[simp] theorem tySz187 : eSz Go.Proofs.Tryz.prog 187 = some 1 := by kernel_rfl
@[simp] theorem tyAgg187 : eAgg Go.Proofs.Tryz.prog 187 = some false := by kernel_rfl
@[simp] theorem tyStr187 : eStr Go.Proofs.Tryz.prog 187 = false := by kernel_rfl
@[simp] theorem tyZero187 : eZero Go.Proofs.Tryz.prog 187 = some [.nilFunc] := by kernel_rfl
@[simp] theorem tySz188 : eSz Go.Proofs.Tryz.prog 188 = some 1 := by kernel_rfl
@[simp] theorem tyAgg188 : eAgg Go.Proofs.Tryz.prog 188 = some false := by kernel_rfl
@[simp] theorem tyStr188 : eStr Go.Proofs.Tryz.prog 188 = false := by kernel_rfl
@[simp] theorem tyPtr188 : ePtr Go.Proofs.Tryz.prog 188 = true := by kernel_rfl
@[simp] theorem tyZero188 : eZero Go.Proofs.Tryz.prog 188 = some [.pointer none] := by kernel_rfl
@[simp] theorem tySz189 : eSz Go.Proofs.Tryz.prog 189 = some 1 := by kernel_rfl
@[simp] theorem tyAgg189 : eAgg Go.Proofs.Tryz.prog 189 = some false := by kernel_rfl
@[simp] theorem tyStr189 : eStr Go.Proofs.Tryz.prog 189 = false := by kernel_rfl
@[simp] theorem tyZero189 : eZero Go.Proofs.Tryz.prog 189 = some [.nilFunc] := by kernel_rfl
@[simp] theorem tySz190 : eSz Go.Proofs.Tryz.prog 190 = some 1 := by kernel_rfl
@[simp] theorem tyAgg190 : eAgg Go.Proofs.Tryz.prog 190 = some false := by kernel_rfl
@[simp] theorem tyStr190 : eStr Go.Proofs.Tryz.prog 190 = false := by kernel_rfl
@[simp] theorem tyPtr190 : ePtr Go.Proofs.Tryz.prog 190 = true := by kernel_rfl
@[simp] theorem tyZero190 : eZero Go.Proofs.Tryz.prog 190 = some [.pointer none] := by kernel_rfl
@[simp] theorem tySz191 : eSz Go.Proofs.Tryz.prog 191 = some 1 := by kernel_rfl
@[simp] theorem tyAgg191 : eAgg Go.Proofs.Tryz.prog 191 = some false := by kernel_rfl
@[simp] theorem tyStr191 : eStr Go.Proofs.Tryz.prog 191 = false := by kernel_rfl
@[simp] theorem tySz192 : eSz Go.Proofs.Tryz.prog 192 = some 1 := by kernel_rfl
@[simp] theorem tyAgg192 : eAgg Go.Proofs.Tryz.prog 192 = some false := by kernel_rfl
@[simp] theorem tyStr192 : eStr Go.Proofs.Tryz.prog 192 = false := by kernel_rfl
@[simp] theorem tyZero192 : eZero Go.Proofs.Tryz.prog 192 = some [.nilFunc] := by kernel_rfl
@[simp] theorem tySz193 : eSz Go.Proofs.Tryz.prog 193 = some 32 := by kernel_rfl
@[simp] theorem tyAgg193 : eAgg Go.Proofs.Tryz.prog 193 = some true := by kernel_rfl
@[simp] theorem tyStr193 : eStr Go.Proofs.Tryz.prog 193 = false := by kernel_rfl
@[simp] theorem tyArr193 : eArr Go.Proofs.Tryz.prog 193 = some (5, 32, 1) := by kernel_rfl
@[simp] theorem tyZero193 : eZero Go.Proofs.Tryz.prog 193 = some [.int .u8 0, .int .u8 0, .int .u8 0, .int .u8 0, .int .u8 0, .int .u8 0, .int .u8 0, .int .u8 0, .int .u8 0, .int .u8 0, .int .u8 0, .int .u8 0, .int .u8 0, .int .u8 0, .int .u8 0, .int .u8 0, .int .u8 0, .int .u8 0, .int .u8 0, .int .u8 0, .int .u8 0, .int .u8 0, .int .u8 0, .int .u8 0, .int .u8 0, .int .u8 0, .int .u8 0, .int .u8 0, .int .u8 0, .int .u8 0, .int .u8 0, .int .u8 0] := by kernel_rfl
@[simp] theorem tySz194 : eSz Go.Proofs.Tryz.prog 194 = some 64 := by kernel_rfl
@[simp] theorem tyAgg194 : eAgg Go.Proofs.Tryz.prog 194 = some true := by kernel_rfl
@[simp] theorem tyStr194 : eStr Go.Proofs.Tryz.prog 194 = false := by kernel_rfl
@[simp] theorem tyArr194 : eArr Go.Proofs.Tryz.prog 194 = some (5, 64, 1) := by kernel_rfl
@[simp] theorem tySz195 : eSz Go.Proofs.Tryz.prog 195 = some 4 := by kernel_rfl
@[simp] theorem tyAgg195 : eAgg Go.Proofs.Tryz.prog 195 = some true := by kernel_rfl
@[simp] theorem tyStr195 : eStr Go.Proofs.Tryz.prog 195 = false := by kernel_rfl
@[simp] theorem tyFld195_0 : eFld Go.Proofs.Tryz.prog 195 0 = some (17, 0) := by kernel_rfl
@[simp] theorem tyFld195_1 : eFld Go.Proofs.Tryz.prog 195 1 = some (17, 1) := by kernel_rfl
@[simp] theorem tyFld195_2 : eFld Go.Proofs.Tryz.prog 195 2 = some (17, 2) := by kernel_rfl
@[simp] theorem tyFld195_3 : eFld Go.Proofs.Tryz.prog 195 3 = some (9, 3) := by kernel_rfl
@[simp] theorem tyPl195 : ePl Go.Proofs.Tryz.prog 195 = some [(0, 1), (1, 1), (2, 1), (3, 1)] := by kernel_rfl
@[simp] theorem tyZero195 : eZero Go.Proofs.Tryz.prog 195 = some [.pointer none, .pointer none, .pointer none, .string .empty] := by kernel_rfl
@[simp] theorem tySz196 : eSz Go.Proofs.Tryz.prog 196 = some 4 := by kernel_rfl
@[simp] theorem tyAgg196 : eAgg Go.Proofs.Tryz.prog 196 = some true := by kernel_rfl
@[simp] theorem tyStr196 : eStr Go.Proofs.Tryz.prog 196 = false := by kernel_rfl
@[simp] theorem tyFld196_0 : eFld Go.Proofs.Tryz.prog 196 0 = some (17, 0) := by kernel_rfl
@[simp] theorem tyFld196_1 : eFld Go.Proofs.Tryz.prog 196 1 = some (17, 1) := by kernel_rfl
@[simp] theorem tyFld196_2 : eFld Go.Proofs.Tryz.prog 196 2 = some (17, 2) := by kernel_rfl
@[simp] theorem tyFld196_3 : eFld Go.Proofs.Tryz.prog 196 3 = some (9, 3) := by kernel_rfl
@[simp] theorem tyPl196 : ePl Go.Proofs.Tryz.prog 196 = some [(0, 1), (1, 1), (2, 1), (3, 1)] := by kernel_rfl
@[simp] theorem tyZero196 : eZero Go.Proofs.Tryz.prog 196 = some [.pointer none, .pointer none, .pointer none, .string .empty] := by kernel_rfl
@[simp] theorem tySz197 : eSz Go.Proofs.Tryz.prog 197 = some 0 := by kernel_rfl
@[simp] theorem tyAgg197 : eAgg Go.Proofs.Tryz.prog 197 = some true := by kernel_rfl
@[simp] theorem tyStr197 : eStr Go.Proofs.Tryz.prog 197 = false := by kernel_rfl
@[simp] theorem tyArr197 : eArr Go.Proofs.Tryz.prog 197 = some (16, 0, 1) := by kernel_rfl
@[simp] theorem tyPl197 : ePl Go.Proofs.Tryz.prog 197 = some [] := by kernel_rfl
@[simp] theorem tyZero197 : eZero Go.Proofs.Tryz.prog 197 = some [] := by kernel_rfl
@[simp] theorem tySz198 : eSz Go.Proofs.Tryz.prog 198 = some 0 := by kernel_rfl
@[simp] theorem tyAgg198 : eAgg Go.Proofs.Tryz.prog 198 = some true := by kernel_rfl
@[simp] theorem tyStr198 : eStr Go.Proofs.Tryz.prog 198 = false := by kernel_rfl
@[simp] theorem tyPl198 : ePl Go.Proofs.Tryz.prog 198 = some [(0, 0)] := by kernel_rfl
@[simp] theorem tyZero198 : eZero Go.Proofs.Tryz.prog 198 = some [] := by kernel_rfl
@[simp] theorem tySz199 : eSz Go.Proofs.Tryz.prog 199 = some 0 := by kernel_rfl
@[simp] theorem tyAgg199 : eAgg Go.Proofs.Tryz.prog 199 = some true := by kernel_rfl
@[simp] theorem tyStr199 : eStr Go.Proofs.Tryz.prog 199 = false := by kernel_rfl
@[simp] theorem tyPl199 : ePl Go.Proofs.Tryz.prog 199 = some [(0, 0)] := by kernel_rfl
@[simp] theorem tyZero199 : eZero Go.Proofs.Tryz.prog 199 = some [] := by kernel_rfl
@[simp] theorem tySz200 : eSz Go.Proofs.Tryz.prog 200 = some 1 := by kernel_rfl
@[simp] theorem tyAgg200 : eAgg Go.Proofs.Tryz.prog 200 = some false := by kernel_rfl
@[simp] theorem tyStr200 : eStr Go.Proofs.Tryz.prog 200 = false := by kernel_rfl
@[simp] theorem tyZero200 : eZero Go.Proofs.Tryz.prog 200 = some [.nilFunc] := by kernel_rfl
@[simp] theorem tySz201 : eSz Go.Proofs.Tryz.prog 201 = some 1 := by kernel_rfl
@[simp] theorem tyAgg201 : eAgg Go.Proofs.Tryz.prog 201 = some false := by kernel_rfl
@[simp] theorem tyStr201 : eStr Go.Proofs.Tryz.prog 201 = false := by kernel_rfl
@[simp] theorem tyInt201 : eInt Go.Proofs.Tryz.prog 201 = some .u8 := by kernel_rfl
@[simp] theorem tyZero201 : eZero Go.Proofs.Tryz.prog 201 = some [.int .u8 0] := by kernel_rfl
@[simp] theorem tySz202 : eSz Go.Proofs.Tryz.prog 202 = some 1 := by kernel_rfl
@[simp] theorem tyAgg202 : eAgg Go.Proofs.Tryz.prog 202 = some false := by kernel_rfl
@[simp] theorem tyStr202 : eStr Go.Proofs.Tryz.prog 202 = false := by kernel_rfl
@[simp] theorem tyInt202 : eInt Go.Proofs.Tryz.prog 202 = some .u8 := by kernel_rfl
@[simp] theorem tyZero202 : eZero Go.Proofs.Tryz.prog 202 = some [.int .u8 0] := by kernel_rfl
@[simp] theorem tySz203 : eSz Go.Proofs.Tryz.prog 203 = some 1 := by kernel_rfl
@[simp] theorem tyAgg203 : eAgg Go.Proofs.Tryz.prog 203 = some false := by kernel_rfl
@[simp] theorem tyStr203 : eStr Go.Proofs.Tryz.prog 203 = false := by kernel_rfl
@[simp] theorem tyZero203 : eZero Go.Proofs.Tryz.prog 203 = some [.nilFunc] := by kernel_rfl
@[simp] theorem tySz204 : eSz Go.Proofs.Tryz.prog 204 = some 1 := by kernel_rfl
@[simp] theorem tyAgg204 : eAgg Go.Proofs.Tryz.prog 204 = some false := by kernel_rfl
@[simp] theorem tyStr204 : eStr Go.Proofs.Tryz.prog 204 = false := by kernel_rfl
@[simp] theorem tyInt204 : eInt Go.Proofs.Tryz.prog 204 = some .i32 := by kernel_rfl
@[simp] theorem tyZero204 : eZero Go.Proofs.Tryz.prog 204 = some [.int .i32 0] := by kernel_rfl
@[simp] theorem tySz205 : eSz Go.Proofs.Tryz.prog 205 = some 1 := by kernel_rfl
@[simp] theorem tyAgg205 : eAgg Go.Proofs.Tryz.prog 205 = some false := by kernel_rfl
@[simp] theorem tyStr205 : eStr Go.Proofs.Tryz.prog 205 = false := by kernel_rfl
@[simp] theorem tyInt205 : eInt Go.Proofs.Tryz.prog 205 = some .i32 := by kernel_rfl
@[simp] theorem tyZero205 : eZero Go.Proofs.Tryz.prog 205 = some [.int .i32 0] := by kernel_rfl
@[simp] theorem tySz206 : eSz Go.Proofs.Tryz.prog 206 = some 11 := by kernel_rfl
@[simp] theorem tyAgg206 : eAgg Go.Proofs.Tryz.prog 206 = some true := by kernel_rfl
@[simp] theorem tyStr206 : eStr Go.Proofs.Tryz.prog 206 = false := by kernel_rfl
@[simp] theorem tyFld206_0 : eFld Go.Proofs.Tryz.prog 206 0 = some (12, 0) := by kernel_rfl
@[simp] theorem tyFld206_1 : eFld Go.Proofs.Tryz.prog 206 1 = some (12, 1) := by kernel_rfl
@[simp] theorem tyFld206_2 : eFld Go.Proofs.Tryz.prog 206 2 = some (171, 2) := by kernel_rfl
@[simp] theorem tyFld206_3 : eFld Go.Proofs.Tryz.prog 206 3 = some (201, 3) := by kernel_rfl
@[simp] theorem tyFld206_4 : eFld Go.Proofs.Tryz.prog 206 4 = some (5, 4) := by kernel_rfl
@[simp] theorem tyFld206_5 : eFld Go.Proofs.Tryz.prog 206 5 = some (5, 5) := by kernel_rfl
@[simp] theorem tyFld206_6 : eFld Go.Proofs.Tryz.prog 206 6 = some (202, 6) := by kernel_rfl
@[simp] theorem tyFld206_7 : eFld Go.Proofs.Tryz.prog 206 7 = some (203, 7) := by kernel_rfl
@[simp] theorem tyFld206_8 : eFld Go.Proofs.Tryz.prog 206 8 = some (132, 8) := by kernel_rfl
@[simp] theorem tyFld206_9 : eFld Go.Proofs.Tryz.prog 206 9 = some (204, 9) := by kernel_rfl
@[simp] theorem tyFld206_10 : eFld Go.Proofs.Tryz.prog 206 10 = some (205, 10) := by kernel_rfl
@[simp] theorem tyPl206 : ePl Go.Proofs.Tryz.prog 206 = some [(0, 1), (1, 1), (2, 1), (3, 1), (4, 1), (5, 1), (6, 1), (7, 1), (8, 1), (9, 1), (10, 1)] := by kernel_rfl
@[simp] theorem tyZero206 : eZero Go.Proofs.Tryz.prog 206 = some [.int .u64 0, .int .u64 0, .int .u32 0, .int .u8 0, .int .u8 0, .int .u8 0, .int .u8 0, .nilFunc, .pointer none, .int .i32 0, .int .i32 0] := by kernel_rfl
@[simp] theorem tySz207 : eSz Go.Proofs.Tryz.prog 207 = some 11 := by kernel_rfl
@[simp] theorem tyAgg207 : eAgg Go.Proofs.Tryz.prog 207 = some true := by kernel_rfl
@[simp] theorem tyStr207 : eStr Go.Proofs.Tryz.prog 207 = false := by kernel_rfl
@[simp] theorem tyFld207_0 : eFld Go.Proofs.Tryz.prog 207 0 = some (12, 0) := by kernel_rfl
@[simp] theorem tyFld207_1 : eFld Go.Proofs.Tryz.prog 207 1 = some (12, 1) := by kernel_rfl
@[simp] theorem tyFld207_2 : eFld Go.Proofs.Tryz.prog 207 2 = some (171, 2) := by kernel_rfl
@[simp] theorem tyFld207_3 : eFld Go.Proofs.Tryz.prog 207 3 = some (201, 3) := by kernel_rfl
@[simp] theorem tyFld207_4 : eFld Go.Proofs.Tryz.prog 207 4 = some (5, 4) := by kernel_rfl
@[simp] theorem tyFld207_5 : eFld Go.Proofs.Tryz.prog 207 5 = some (5, 5) := by kernel_rfl
@[simp] theorem tyFld207_6 : eFld Go.Proofs.Tryz.prog 207 6 = some (202, 6) := by kernel_rfl
@[simp] theorem tyFld207_7 : eFld Go.Proofs.Tryz.prog 207 7 = some (203, 7) := by kernel_rfl
@[simp] theorem tyFld207_8 : eFld Go.Proofs.Tryz.prog 207 8 = some (132, 8) := by kernel_rfl
@[simp] theorem tyFld207_9 : eFld Go.Proofs.Tryz.prog 207 9 = some (204, 9) := by kernel_rfl
@[simp] theorem tyFld207_10 : eFld Go.Proofs.Tryz.prog 207 10 = some (205, 10) := by kernel_rfl
@[simp] theorem tyPl207 : ePl Go.Proofs.Tryz.prog 207 = some [(0, 1), (1, 1), (2, 1), (3, 1), (4, 1), (5, 1), (6, 1), (7, 1), (8, 1), (9, 1), (10, 1)] := by kernel_rfl
@[simp] theorem tyZero207 : eZero Go.Proofs.Tryz.prog 207 = some [.int .u64 0, .int .u64 0, .int .u32 0, .int .u8 0, .int .u8 0, .int .u8 0, .int .u8 0, .nilFunc, .pointer none, .int .i32 0, .int .i32 0] := by kernel_rfl
@[simp] theorem tyEq22 : eEq Go.Proofs.Tryz.prog 22 = some [1, 1, 1, 1, 1, 2, 1, 2] := by kernel_rfl
@[simp] theorem tyEq23 : eEq Go.Proofs.Tryz.prog 23 = some [1, 1, 1, 1, 1, 2, 1, 2] := by kernel_rfl
@[simp] theorem tyEq37 : eEq Go.Proofs.Tryz.prog 37 = some [0, 1, 2] := by kernel_rfl
@[simp] theorem tyEq38 : eEq Go.Proofs.Tryz.prog 38 = some [0, 1, 2] := by kernel_rfl
@[simp] theorem tyEq76 : eEq Go.Proofs.Tryz.prog 76 = some [0, 1] := by kernel_rfl
@[simp] theorem tyEq77 : eEq Go.Proofs.Tryz.prog 77 = some [0, 1] := by kernel_rfl
@[simp] theorem tyEq86 : eEq Go.Proofs.Tryz.prog 86 = some [1, 0, 1, 1, 1, 1, 1, 2, 1, 2] := by kernel_rfl
@[simp] theorem tyEq87 : eEq Go.Proofs.Tryz.prog 87 = some [1, 0, 1, 1, 1, 1, 1, 2, 1, 2] := by kernel_rfl
@[simp] theorem tyEq125 : eEq Go.Proofs.Tryz.prog 125 = some [1, 0, 0] := by kernel_rfl
@[simp] theorem tyEq126 : eEq Go.Proofs.Tryz.prog 126 = some [1, 0, 0] := by kernel_rfl
@[simp] theorem tyEq175 : eEq Go.Proofs.Tryz.prog 175 = some [0, 0] := by kernel_rfl
@[simp] theorem tyEq176 : eEq Go.Proofs.Tryz.prog 176 = some [0, 0] := by kernel_rfl
@[simp] theorem tyEq179 : eEq Go.Proofs.Tryz.prog 179 = some [1] := by kernel_rfl
@[simp] theorem tyEq180 : eEq Go.Proofs.Tryz.prog 180 = some [1] := by kernel_rfl
end Go.Lw
