/-
  CLOSED FACTS ON THE TYPES OF THIS PROGRAM (printed by a program of ours; each is checked by the kernel).
-/
import Derived.Test.YtglonkenckigiaaDoorLwRun
import Derived.Test.YtglonkenckigiaaDoorRows
set_option linter.unusedSimpArgs false
set_option linter.unusedVariables false
namespace Go.Lw
@[simp] theorem tySz0 : eSz Go.Proofs.Tryd.prog 0 = some 1 := by kernel_rfl
@[simp] theorem tyAgg0 : eAgg Go.Proofs.Tryd.prog 0 = some false := by kernel_rfl
@[simp] theorem tyStr0 : eStr Go.Proofs.Tryd.prog 0 = false := by kernel_rfl
@[simp] theorem tySz1 : eSz Go.Proofs.Tryd.prog 1 = some 1 := by kernel_rfl
@[simp] theorem tyAgg1 : eAgg Go.Proofs.Tryd.prog 1 = some false := by kernel_rfl
@[simp] theorem tyStr1 : eStr Go.Proofs.Tryd.prog 1 = false := by kernel_rfl
@[simp] theorem tyZero1 : eZero Go.Proofs.Tryd.prog 1 = some [.nilFunc] := by kernel_rfl
@[simp] theorem tySz2 : eSz Go.Proofs.Tryd.prog 2 = some 1 := by kernel_rfl
@[simp] theorem tyAgg2 : eAgg Go.Proofs.Tryd.prog 2 = some false := by kernel_rfl
@[simp] theorem tyStr2 : eStr Go.Proofs.Tryd.prog 2 = false := by kernel_rfl
@[simp] theorem tyInt2 : eInt Go.Proofs.Tryd.prog 2 = some .i64 := by kernel_rfl
@[simp] theorem tyZero2 : eZero Go.Proofs.Tryd.prog 2 = some [.int .i64 0] := by kernel_rfl
@[simp] theorem tySz3 : eSz Go.Proofs.Tryd.prog 3 = some 1 := by kernel_rfl
@[simp] theorem tyAgg3 : eAgg Go.Proofs.Tryd.prog 3 = some false := by kernel_rfl
@[simp] theorem tyStr3 : eStr Go.Proofs.Tryd.prog 3 = false := by kernel_rfl
@[simp] theorem tyInt3 : eInt Go.Proofs.Tryd.prog 3 = some .i64 := by kernel_rfl
@[simp] theorem tyZero3 : eZero Go.Proofs.Tryd.prog 3 = some [.int .i64 0] := by kernel_rfl
@[simp] theorem tySz4 : eSz Go.Proofs.Tryd.prog 4 = some 1 := by kernel_rfl
@[simp] theorem tyAgg4 : eAgg Go.Proofs.Tryd.prog 4 = some false := by kernel_rfl
@[simp] theorem tyStr4 : eStr Go.Proofs.Tryd.prog 4 = false := by kernel_rfl
@[simp] theorem tyBool4 : eBool Go.Proofs.Tryd.prog 4 = true := by kernel_rfl
@[simp] theorem tyZero4 : eZero Go.Proofs.Tryd.prog 4 = some [.bool false] := by kernel_rfl
@[simp] theorem tySz5 : eSz Go.Proofs.Tryd.prog 5 = some 1 := by kernel_rfl
@[simp] theorem tyAgg5 : eAgg Go.Proofs.Tryd.prog 5 = some false := by kernel_rfl
@[simp] theorem tyStr5 : eStr Go.Proofs.Tryd.prog 5 = false := by kernel_rfl
@[simp] theorem tyInt5 : eInt Go.Proofs.Tryd.prog 5 = some .u8 := by kernel_rfl
@[simp] theorem tyZero5 : eZero Go.Proofs.Tryd.prog 5 = some [.int .u8 0] := by kernel_rfl
@[simp] theorem tySz6 : eSz Go.Proofs.Tryd.prog 6 = some 1 := by kernel_rfl
@[simp] theorem tyAgg6 : eAgg Go.Proofs.Tryd.prog 6 = some false := by kernel_rfl
@[simp] theorem tyStr6 : eStr Go.Proofs.Tryd.prog 6 = false := by kernel_rfl
@[simp] theorem tyInt6 : eInt Go.Proofs.Tryd.prog 6 = some .u8 := by kernel_rfl
@[simp] theorem tyZero6 : eZero Go.Proofs.Tryd.prog 6 = some [.int .u8 0] := by kernel_rfl
@[simp] theorem tySz7 : eSz Go.Proofs.Tryd.prog 7 = some 4 := by kernel_rfl
@[simp] theorem tyAgg7 : eAgg Go.Proofs.Tryd.prog 7 = some true := by kernel_rfl
@[simp] theorem tyStr7 : eStr Go.Proofs.Tryd.prog 7 = false := by kernel_rfl
@[simp] theorem tyFld7_0 : eFld Go.Proofs.Tryd.prog 7 0 = some (2, 0) := by kernel_rfl
@[simp] theorem tyFld7_1 : eFld Go.Proofs.Tryd.prog 7 1 = some (3, 1) := by kernel_rfl
@[simp] theorem tyFld7_2 : eFld Go.Proofs.Tryd.prog 7 2 = some (4, 2) := by kernel_rfl
@[simp] theorem tyFld7_3 : eFld Go.Proofs.Tryd.prog 7 3 = some (6, 3) := by kernel_rfl
@[simp] theorem tyPl7 : ePl Go.Proofs.Tryd.prog 7 = some [(0, 1), (1, 1), (2, 1), (3, 1)] := by kernel_rfl
@[simp] theorem tyZero7 : eZero Go.Proofs.Tryd.prog 7 = some [.int .i64 0, .int .i64 0, .bool false, .int .u8 0] := by kernel_rfl
@[simp] theorem tySz8 : eSz Go.Proofs.Tryd.prog 8 = some 4 := by kernel_rfl
@[simp] theorem tyAgg8 : eAgg Go.Proofs.Tryd.prog 8 = some true := by kernel_rfl
@[simp] theorem tyStr8 : eStr Go.Proofs.Tryd.prog 8 = false := by kernel_rfl
@[simp] theorem tyFld8_0 : eFld Go.Proofs.Tryd.prog 8 0 = some (2, 0) := by kernel_rfl
@[simp] theorem tyFld8_1 : eFld Go.Proofs.Tryd.prog 8 1 = some (3, 1) := by kernel_rfl
@[simp] theorem tyFld8_2 : eFld Go.Proofs.Tryd.prog 8 2 = some (4, 2) := by kernel_rfl
@[simp] theorem tyFld8_3 : eFld Go.Proofs.Tryd.prog 8 3 = some (6, 3) := by kernel_rfl
@[simp] theorem tyPl8 : ePl Go.Proofs.Tryd.prog 8 = some [(0, 1), (1, 1), (2, 1), (3, 1)] := by kernel_rfl
@[simp] theorem tyZero8 : eZero Go.Proofs.Tryd.prog 8 = some [.int .i64 0, .int .i64 0, .bool false, .int .u8 0] := by kernel_rfl
@[simp] theorem tySz9 : eSz Go.Proofs.Tryd.prog 9 = some 1 := by kernel_rfl
@[simp] theorem tyAgg9 : eAgg Go.Proofs.Tryd.prog 9 = some false := by kernel_rfl
@[simp] theorem tyStr9 : eStr Go.Proofs.Tryd.prog 9 = true := by kernel_rfl
@[simp] theorem tyInt9 : eInt Go.Proofs.Tryd.prog 9 = none := by kernel_rfl
@[simp] theorem tyZero9 : eZero Go.Proofs.Tryd.prog 9 = some [.string .empty] := by kernel_rfl
@[simp] theorem tySz10 : eSz Go.Proofs.Tryd.prog 10 = some 1 := by kernel_rfl
@[simp] theorem tyAgg10 : eAgg Go.Proofs.Tryd.prog 10 = some false := by kernel_rfl
@[simp] theorem tyStr10 : eStr Go.Proofs.Tryd.prog 10 = true := by kernel_rfl
@[simp] theorem tyInt10 : eInt Go.Proofs.Tryd.prog 10 = none := by kernel_rfl
@[simp] theorem tyZero10 : eZero Go.Proofs.Tryd.prog 10 = some [.string .empty] := by kernel_rfl
@[simp] theorem tySz11 : eSz Go.Proofs.Tryd.prog 11 = some 1 := by kernel_rfl
@[simp] theorem tyAgg11 : eAgg Go.Proofs.Tryd.prog 11 = some false := by kernel_rfl
@[simp] theorem tyStr11 : eStr Go.Proofs.Tryd.prog 11 = true := by kernel_rfl
@[simp] theorem tyInt11 : eInt Go.Proofs.Tryd.prog 11 = none := by kernel_rfl
@[simp] theorem tyZero11 : eZero Go.Proofs.Tryd.prog 11 = some [.string .empty] := by kernel_rfl
@[simp] theorem tySz12 : eSz Go.Proofs.Tryd.prog 12 = some 1 := by kernel_rfl
@[simp] theorem tyAgg12 : eAgg Go.Proofs.Tryd.prog 12 = some false := by kernel_rfl
@[simp] theorem tyStr12 : eStr Go.Proofs.Tryd.prog 12 = false := by kernel_rfl
@[simp] theorem tyInt12 : eInt Go.Proofs.Tryd.prog 12 = some .u64 := by kernel_rfl
@[simp] theorem tyZero12 : eZero Go.Proofs.Tryd.prog 12 = some [.int .u64 0] := by kernel_rfl
@[simp] theorem tySz13 : eSz Go.Proofs.Tryd.prog 13 = some 2 := by kernel_rfl
@[simp] theorem tyAgg13 : eAgg Go.Proofs.Tryd.prog 13 = some true := by kernel_rfl
@[simp] theorem tyStr13 : eStr Go.Proofs.Tryd.prog 13 = false := by kernel_rfl
@[simp] theorem tyFld13_0 : eFld Go.Proofs.Tryd.prog 13 0 = some (9, 0) := by kernel_rfl
@[simp] theorem tyFld13_1 : eFld Go.Proofs.Tryd.prog 13 1 = some (12, 1) := by kernel_rfl
@[simp] theorem tyPl13 : ePl Go.Proofs.Tryd.prog 13 = some [(0, 1), (1, 1)] := by kernel_rfl
@[simp] theorem tyZero13 : eZero Go.Proofs.Tryd.prog 13 = some [.string .empty, .int .u64 0] := by kernel_rfl
@[simp] theorem tySz14 : eSz Go.Proofs.Tryd.prog 14 = some 2 := by kernel_rfl
@[simp] theorem tyAgg14 : eAgg Go.Proofs.Tryd.prog 14 = some true := by kernel_rfl
@[simp] theorem tyStr14 : eStr Go.Proofs.Tryd.prog 14 = false := by kernel_rfl
@[simp] theorem tyFld14_0 : eFld Go.Proofs.Tryd.prog 14 0 = some (9, 0) := by kernel_rfl
@[simp] theorem tyFld14_1 : eFld Go.Proofs.Tryd.prog 14 1 = some (12, 1) := by kernel_rfl
@[simp] theorem tyPl14 : ePl Go.Proofs.Tryd.prog 14 = some [(0, 1), (1, 1)] := by kernel_rfl
@[simp] theorem tyZero14 : eZero Go.Proofs.Tryd.prog 14 = some [.string .empty, .int .u64 0] := by kernel_rfl
@[simp] theorem tySz15 : eSz Go.Proofs.Tryd.prog 15 = some 1 := by kernel_rfl
@[simp] theorem tyAgg15 : eAgg Go.Proofs.Tryd.prog 15 = some false := by kernel_rfl
@[simp] theorem tyStr15 : eStr Go.Proofs.Tryd.prog 15 = false := by kernel_rfl
@[simp] theorem tyPtr15 : ePtr Go.Proofs.Tryd.prog 15 = true := by kernel_rfl
@[simp] theorem tyZero15 : eZero Go.Proofs.Tryd.prog 15 = some [.pointer none] := by kernel_rfl
@[simp] theorem tySz16 : eSz Go.Proofs.Tryd.prog 16 = some 1 := by kernel_rfl
@[simp] theorem tyAgg16 : eAgg Go.Proofs.Tryd.prog 16 = some false := by kernel_rfl
@[simp] theorem tyStr16 : eStr Go.Proofs.Tryd.prog 16 = false := by kernel_rfl
@[simp] theorem tyPtr16 : ePtr Go.Proofs.Tryd.prog 16 = false := by kernel_rfl
@[simp] theorem tyZero16 : eZero Go.Proofs.Tryd.prog 16 = some [.pointer none] := by kernel_rfl
@[simp] theorem tySz17 : eSz Go.Proofs.Tryd.prog 17 = some 1 := by kernel_rfl
@[simp] theorem tyAgg17 : eAgg Go.Proofs.Tryd.prog 17 = some false := by kernel_rfl
@[simp] theorem tyStr17 : eStr Go.Proofs.Tryd.prog 17 = false := by kernel_rfl
@[simp] theorem tyPtr17 : ePtr Go.Proofs.Tryd.prog 17 = true := by kernel_rfl
@[simp] theorem tyZero17 : eZero Go.Proofs.Tryd.prog 17 = some [.pointer none] := by kernel_rfl
@[simp] theorem tySz18 : eSz Go.Proofs.Tryd.prog 18 = some 1 := by kernel_rfl
@[simp] theorem tyAgg18 : eAgg Go.Proofs.Tryd.prog 18 = some true := by kernel_rfl
@[simp] theorem tyStr18 : eStr Go.Proofs.Tryd.prog 18 = false := by kernel_rfl
@[simp] theorem tyFld18_0 : eFld Go.Proofs.Tryd.prog 18 0 = some (17, 0) := by kernel_rfl
@[simp] theorem tyPl18 : ePl Go.Proofs.Tryd.prog 18 = some [(0, 1)] := by kernel_rfl
@[simp] theorem tyZero18 : eZero Go.Proofs.Tryd.prog 18 = some [.pointer none] := by kernel_rfl
@[simp] theorem tySz19 : eSz Go.Proofs.Tryd.prog 19 = some 1 := by kernel_rfl
@[simp] theorem tyAgg19 : eAgg Go.Proofs.Tryd.prog 19 = some true := by kernel_rfl
@[simp] theorem tyStr19 : eStr Go.Proofs.Tryd.prog 19 = false := by kernel_rfl
@[simp] theorem tyFld19_0 : eFld Go.Proofs.Tryd.prog 19 0 = some (17, 0) := by kernel_rfl
@[simp] theorem tyPl19 : ePl Go.Proofs.Tryd.prog 19 = some [(0, 1)] := by kernel_rfl
@[simp] theorem tyZero19 : eZero Go.Proofs.Tryd.prog 19 = some [.pointer none] := by kernel_rfl
@[simp] theorem tySz20 : eSz Go.Proofs.Tryd.prog 20 = some 1 := by kernel_rfl
@[simp] theorem tyAgg20 : eAgg Go.Proofs.Tryd.prog 20 = some false := by kernel_rfl
@[simp] theorem tyStr20 : eStr Go.Proofs.Tryd.prog 20 = false := by kernel_rfl
@[simp] theorem tyZero20 : eZero Go.Proofs.Tryd.prog 20 = some [.nilIface] := by kernel_rfl
@[simp] theorem tySz21 : eSz Go.Proofs.Tryd.prog 21 = some 1 := by kernel_rfl
@[simp] theorem tyAgg21 : eAgg Go.Proofs.Tryd.prog 21 = some false := by kernel_rfl
@[simp] theorem tyStr21 : eStr Go.Proofs.Tryd.prog 21 = false := by kernel_rfl
@[simp] theorem tyInt21 : eInt Go.Proofs.Tryd.prog 21 = some .i32 := by kernel_rfl
@[simp] theorem tyZero21 : eZero Go.Proofs.Tryd.prog 21 = some [.int .i32 0] := by kernel_rfl
@[simp] theorem tySz22 : eSz Go.Proofs.Tryd.prog 22 = some 8 := by kernel_rfl
@[simp] theorem tyAgg22 : eAgg Go.Proofs.Tryd.prog 22 = some true := by kernel_rfl
@[simp] theorem tyStr22 : eStr Go.Proofs.Tryd.prog 22 = false := by kernel_rfl
@[simp] theorem tyFld22_0 : eFld Go.Proofs.Tryd.prog 22 0 = some (9, 0) := by kernel_rfl
@[simp] theorem tyFld22_1 : eFld Go.Proofs.Tryd.prog 22 1 = some (9, 1) := by kernel_rfl
@[simp] theorem tyFld22_2 : eFld Go.Proofs.Tryd.prog 22 2 = some (9, 2) := by kernel_rfl
@[simp] theorem tyFld22_3 : eFld Go.Proofs.Tryd.prog 22 3 = some (9, 3) := by kernel_rfl
@[simp] theorem tyFld22_4 : eFld Go.Proofs.Tryd.prog 22 4 = some (9, 4) := by kernel_rfl
@[simp] theorem tyFld22_5 : eFld Go.Proofs.Tryd.prog 22 5 = some (4, 5) := by kernel_rfl
@[simp] theorem tyFld22_6 : eFld Go.Proofs.Tryd.prog 22 6 = some (9, 6) := by kernel_rfl
@[simp] theorem tyFld22_7 : eFld Go.Proofs.Tryd.prog 22 7 = some (4, 7) := by kernel_rfl
@[simp] theorem tyPl22 : ePl Go.Proofs.Tryd.prog 22 = some [(0, 1), (1, 1), (2, 1), (3, 1), (4, 1), (5, 1), (6, 1), (7, 1)] := by kernel_rfl
@[simp] theorem tyZero22 : eZero Go.Proofs.Tryd.prog 22 = some [.string .empty, .string .empty, .string .empty, .string .empty, .string .empty, .bool false, .string .empty, .bool false] := by kernel_rfl
@[simp] theorem tySz23 : eSz Go.Proofs.Tryd.prog 23 = some 8 := by kernel_rfl
@[simp] theorem tyAgg23 : eAgg Go.Proofs.Tryd.prog 23 = some true := by kernel_rfl
@[simp] theorem tyStr23 : eStr Go.Proofs.Tryd.prog 23 = false := by kernel_rfl
@[simp] theorem tyFld23_0 : eFld Go.Proofs.Tryd.prog 23 0 = some (9, 0) := by kernel_rfl
@[simp] theorem tyFld23_1 : eFld Go.Proofs.Tryd.prog 23 1 = some (9, 1) := by kernel_rfl
@[simp] theorem tyFld23_2 : eFld Go.Proofs.Tryd.prog 23 2 = some (9, 2) := by kernel_rfl
@[simp] theorem tyFld23_3 : eFld Go.Proofs.Tryd.prog 23 3 = some (9, 3) := by kernel_rfl
@[simp] theorem tyFld23_4 : eFld Go.Proofs.Tryd.prog 23 4 = some (9, 4) := by kernel_rfl
@[simp] theorem tyFld23_5 : eFld Go.Proofs.Tryd.prog 23 5 = some (4, 5) := by kernel_rfl
@[simp] theorem tyFld23_6 : eFld Go.Proofs.Tryd.prog 23 6 = some (9, 6) := by kernel_rfl
@[simp] theorem tyFld23_7 : eFld Go.Proofs.Tryd.prog 23 7 = some (4, 7) := by kernel_rfl
@[simp] theorem tyPl23 : ePl Go.Proofs.Tryd.prog 23 = some [(0, 1), (1, 1), (2, 1), (3, 1), (4, 1), (5, 1), (6, 1), (7, 1)] := by kernel_rfl
@[simp] theorem tyZero23 : eZero Go.Proofs.Tryd.prog 23 = some [.string .empty, .string .empty, .string .empty, .string .empty, .string .empty, .bool false, .string .empty, .bool false] := by kernel_rfl
@[simp] theorem tySz24 : eSz Go.Proofs.Tryd.prog 24 = some 1 := by kernel_rfl
@[simp] theorem tyAgg24 : eAgg Go.Proofs.Tryd.prog 24 = some false := by kernel_rfl
@[simp] theorem tyStr24 : eStr Go.Proofs.Tryd.prog 24 = false := by kernel_rfl
@[simp] theorem tyInt24 : eInt Go.Proofs.Tryd.prog 24 = some .i64 := by kernel_rfl
@[simp] theorem tyZero24 : eZero Go.Proofs.Tryd.prog 24 = some [.int .i64 0] := by kernel_rfl
@[simp] theorem tySz25 : eSz Go.Proofs.Tryd.prog 25 = some 1 := by kernel_rfl
@[simp] theorem tyAgg25 : eAgg Go.Proofs.Tryd.prog 25 = some false := by kernel_rfl
@[simp] theorem tyStr25 : eStr Go.Proofs.Tryd.prog 25 = false := by kernel_rfl
@[simp] theorem tySz26 : eSz Go.Proofs.Tryd.prog 26 = some 1 := by kernel_rfl
@[simp] theorem tyAgg26 : eAgg Go.Proofs.Tryd.prog 26 = some false := by kernel_rfl
@[simp] theorem tyStr26 : eStr Go.Proofs.Tryd.prog 26 = false := by kernel_rfl
@[simp] theorem tyZero26 : eZero Go.Proofs.Tryd.prog 26 = some [.nilFunc] := by kernel_rfl
@[simp] theorem tySz27 : eSz Go.Proofs.Tryd.prog 27 = some 1 := by kernel_rfl
@[simp] theorem tyAgg27 : eAgg Go.Proofs.Tryd.prog 27 = some false := by kernel_rfl
@[simp] theorem tyStr27 : eStr Go.Proofs.Tryd.prog 27 = false := by kernel_rfl
@[simp] theorem tyZero27 : eZero Go.Proofs.Tryd.prog 27 = some [.nilFunc] := by kernel_rfl
@[simp] theorem tySz28 : eSz Go.Proofs.Tryd.prog 28 = some 1 := by kernel_rfl
@[simp] theorem tyAgg28 : eAgg Go.Proofs.Tryd.prog 28 = some false := by kernel_rfl
@[simp] theorem tyStr28 : eStr Go.Proofs.Tryd.prog 28 = false := by kernel_rfl
@[simp] theorem tyZero28 : eZero Go.Proofs.Tryd.prog 28 = some [.nilFunc] := by kernel_rfl
@[simp] theorem tySz29 : eSz Go.Proofs.Tryd.prog 29 = some 1 := by kernel_rfl
@[simp] theorem tyAgg29 : eAgg Go.Proofs.Tryd.prog 29 = some false := by kernel_rfl
@[simp] theorem tyStr29 : eStr Go.Proofs.Tryd.prog 29 = false := by kernel_rfl
@[simp] theorem tySz30 : eSz Go.Proofs.Tryd.prog 30 = some 1 := by kernel_rfl
@[simp] theorem tyAgg30 : eAgg Go.Proofs.Tryd.prog 30 = some false := by kernel_rfl
@[simp] theorem tyStr30 : eStr Go.Proofs.Tryd.prog 30 = false := by kernel_rfl
@[simp] theorem tyZero30 : eZero Go.Proofs.Tryd.prog 30 = some [.nilFunc] := by kernel_rfl
@[simp] theorem tySz31 : eSz Go.Proofs.Tryd.prog 31 = some 1 := by kernel_rfl
@[simp] theorem tyAgg31 : eAgg Go.Proofs.Tryd.prog 31 = some false := by kernel_rfl
@[simp] theorem tyStr31 : eStr Go.Proofs.Tryd.prog 31 = false := by kernel_rfl
@[simp] theorem tyZero31 : eZero Go.Proofs.Tryd.prog 31 = some [.nilFunc] := by kernel_rfl
@[simp] theorem tySz32 : eSz Go.Proofs.Tryd.prog 32 = some 1 := by kernel_rfl
@[simp] theorem tyAgg32 : eAgg Go.Proofs.Tryd.prog 32 = some false := by kernel_rfl
@[simp] theorem tyStr32 : eStr Go.Proofs.Tryd.prog 32 = false := by kernel_rfl
@[simp] theorem tyZero32 : eZero Go.Proofs.Tryd.prog 32 = some [.nilFunc] := by kernel_rfl
@[simp] theorem tySz33 : eSz Go.Proofs.Tryd.prog 33 = some 1 := by kernel_rfl
@[simp] theorem tyAgg33 : eAgg Go.Proofs.Tryd.prog 33 = some false := by kernel_rfl
@[simp] theorem tyStr33 : eStr Go.Proofs.Tryd.prog 33 = false := by kernel_rfl
@[simp] theorem tyZero33 : eZero Go.Proofs.Tryd.prog 33 = some [.nilFunc] := by kernel_rfl
@[simp] theorem tySz34 : eSz Go.Proofs.Tryd.prog 34 = some 1 := by kernel_rfl
@[simp] theorem tyAgg34 : eAgg Go.Proofs.Tryd.prog 34 = some false := by kernel_rfl
@[simp] theorem tyStr34 : eStr Go.Proofs.Tryd.prog 34 = false := by kernel_rfl
@[simp] theorem tySz35 : eSz Go.Proofs.Tryd.prog 35 = some 1 := by kernel_rfl
@[simp] theorem tyAgg35 : eAgg Go.Proofs.Tryd.prog 35 = some false := by kernel_rfl
@[simp] theorem tyStr35 : eStr Go.Proofs.Tryd.prog 35 = false := by kernel_rfl
@[simp] theorem tyZero35 : eZero Go.Proofs.Tryd.prog 35 = some [.nilFunc] := by kernel_rfl
@[simp] theorem tySz36 : eSz Go.Proofs.Tryd.prog 36 = some 1 := by kernel_rfl
@[simp] theorem tyAgg36 : eAgg Go.Proofs.Tryd.prog 36 = some false := by kernel_rfl
@[simp] theorem tyElem36 : eElem Go.Proofs.Tryd.prog 36 = some (5, 1) := by kernel_rfl
@[simp] theorem tyBytes5 : eBytes Go.Proofs.Tryd.prog 5 = some 1 := by kernel_rfl
@[simp] theorem tyStr36 : eStr Go.Proofs.Tryd.prog 36 = false := by kernel_rfl
@[simp] theorem tyZero36 : eZero Go.Proofs.Tryd.prog 36 = some [.slice none 0 0] := by kernel_rfl
@[simp] theorem tySz37 : eSz Go.Proofs.Tryd.prog 37 = some 1 := by kernel_rfl
@[simp] theorem tyAgg37 : eAgg Go.Proofs.Tryd.prog 37 = some false := by kernel_rfl
@[simp] theorem tyStr37 : eStr Go.Proofs.Tryd.prog 37 = false := by kernel_rfl
@[simp] theorem tyZero37 : eZero Go.Proofs.Tryd.prog 37 = some [.nilFunc] := by kernel_rfl
@[simp] theorem tySz38 : eSz Go.Proofs.Tryd.prog 38 = some 1 := by kernel_rfl
@[simp] theorem tyAgg38 : eAgg Go.Proofs.Tryd.prog 38 = some false := by kernel_rfl
@[simp] theorem tyStr38 : eStr Go.Proofs.Tryd.prog 38 = false := by kernel_rfl
@[simp] theorem tyZero38 : eZero Go.Proofs.Tryd.prog 38 = some [.nilFunc] := by kernel_rfl
@[simp] theorem tySz39 : eSz Go.Proofs.Tryd.prog 39 = some 1 := by kernel_rfl
@[simp] theorem tyAgg39 : eAgg Go.Proofs.Tryd.prog 39 = some false := by kernel_rfl
@[simp] theorem tyStr39 : eStr Go.Proofs.Tryd.prog 39 = false := by kernel_rfl
@[simp] theorem tyZero39 : eZero Go.Proofs.Tryd.prog 39 = some [.nilFunc] := by kernel_rfl
@[simp] theorem tySz40 : eSz Go.Proofs.Tryd.prog 40 = some 1 := by kernel_rfl
@[simp] theorem tyAgg40 : eAgg Go.Proofs.Tryd.prog 40 = some false := by kernel_rfl
@[simp] theorem tyStr40 : eStr Go.Proofs.Tryd.prog 40 = false := by kernel_rfl
@[simp] theorem tyZero40 : eZero Go.Proofs.Tryd.prog 40 = some [.nilFunc] := by kernel_rfl
@[simp] theorem tySz41 : eSz Go.Proofs.Tryd.prog 41 = some 1 := by kernel_rfl
@[simp] theorem tyAgg41 : eAgg Go.Proofs.Tryd.prog 41 = some false := by kernel_rfl
@[simp] theorem tyStr41 : eStr Go.Proofs.Tryd.prog 41 = false := by kernel_rfl
@[simp] theorem tyZero41 : eZero Go.Proofs.Tryd.prog 41 = some [.nilFunc] := by kernel_rfl
@[simp] theorem tySz42 : eSz Go.Proofs.Tryd.prog 42 = some 1 := by kernel_rfl
@[simp] theorem tyAgg42 : eAgg Go.Proofs.Tryd.prog 42 = some false := by kernel_rfl
@[simp] theorem tyStr42 : eStr Go.Proofs.Tryd.prog 42 = false := by kernel_rfl
@[simp] theorem tySz43 : eSz Go.Proofs.Tryd.prog 43 = some 1 := by kernel_rfl
@[simp] theorem tyAgg43 : eAgg Go.Proofs.Tryd.prog 43 = some false := by kernel_rfl
@[simp] theorem tyStr43 : eStr Go.Proofs.Tryd.prog 43 = false := by kernel_rfl
@[simp] theorem tyZero43 : eZero Go.Proofs.Tryd.prog 43 = some [.nilFunc] := by kernel_rfl
@[simp] theorem tySz44 : eSz Go.Proofs.Tryd.prog 44 = some 1 := by kernel_rfl
@[simp] theorem tyAgg44 : eAgg Go.Proofs.Tryd.prog 44 = some false := by kernel_rfl
@[simp] theorem tyStr44 : eStr Go.Proofs.Tryd.prog 44 = false := by kernel_rfl
@[simp] theorem tyPtr44 : ePtr Go.Proofs.Tryd.prog 44 = true := by kernel_rfl
@[simp] theorem tyZero44 : eZero Go.Proofs.Tryd.prog 44 = some [.pointer none] := by kernel_rfl
@[simp] theorem tySz45 : eSz Go.Proofs.Tryd.prog 45 = some 10 := by kernel_rfl
@[simp] theorem tyAgg45 : eAgg Go.Proofs.Tryd.prog 45 = some true := by kernel_rfl
@[simp] theorem tyStr45 : eStr Go.Proofs.Tryd.prog 45 = false := by kernel_rfl
@[simp] theorem tyFld45_0 : eFld Go.Proofs.Tryd.prog 45 0 = some (9, 0) := by kernel_rfl
@[simp] theorem tyFld45_1 : eFld Go.Proofs.Tryd.prog 45 1 = some (3, 1) := by kernel_rfl
@[simp] theorem tyFld45_2 : eFld Go.Proofs.Tryd.prog 45 2 = some (23, 2) := by kernel_rfl
@[simp] theorem tyPl45 : ePl Go.Proofs.Tryd.prog 45 = some [(0, 1), (1, 1), (2, 8)] := by kernel_rfl
@[simp] theorem tyZero45 : eZero Go.Proofs.Tryd.prog 45 = some [.string .empty, .int .i64 0, .string .empty, .string .empty, .string .empty, .string .empty, .string .empty, .bool false, .string .empty, .bool false] := by kernel_rfl
@[simp] theorem tySz46 : eSz Go.Proofs.Tryd.prog 46 = some 10 := by kernel_rfl
@[simp] theorem tyAgg46 : eAgg Go.Proofs.Tryd.prog 46 = some true := by kernel_rfl
@[simp] theorem tyStr46 : eStr Go.Proofs.Tryd.prog 46 = false := by kernel_rfl
@[simp] theorem tyFld46_0 : eFld Go.Proofs.Tryd.prog 46 0 = some (9, 0) := by kernel_rfl
@[simp] theorem tyFld46_1 : eFld Go.Proofs.Tryd.prog 46 1 = some (3, 1) := by kernel_rfl
@[simp] theorem tyFld46_2 : eFld Go.Proofs.Tryd.prog 46 2 = some (23, 2) := by kernel_rfl
@[simp] theorem tyPl46 : ePl Go.Proofs.Tryd.prog 46 = some [(0, 1), (1, 1), (2, 8)] := by kernel_rfl
@[simp] theorem tyZero46 : eZero Go.Proofs.Tryd.prog 46 = some [.string .empty, .int .i64 0, .string .empty, .string .empty, .string .empty, .string .empty, .string .empty, .bool false, .string .empty, .bool false] := by kernel_rfl
@[simp] theorem tySz47 : eSz Go.Proofs.Tryd.prog 47 = some 1 := by kernel_rfl
@[simp] theorem tyAgg47 : eAgg Go.Proofs.Tryd.prog 47 = some false := by kernel_rfl
@[simp] theorem tyElem47 : eElem Go.Proofs.Tryd.prog 47 = some (9, 1) := by kernel_rfl
@[simp] theorem tyBytes9 : eBytes Go.Proofs.Tryd.prog 9 = some 16 := by kernel_rfl
@[simp] theorem tyStr47 : eStr Go.Proofs.Tryd.prog 47 = false := by kernel_rfl
@[simp] theorem tyZero47 : eZero Go.Proofs.Tryd.prog 47 = some [.slice none 0 0] := by kernel_rfl
@[simp] theorem tySz48 : eSz Go.Proofs.Tryd.prog 48 = some 1 := by kernel_rfl
@[simp] theorem tyAgg48 : eAgg Go.Proofs.Tryd.prog 48 = some false := by kernel_rfl
@[simp] theorem tyStr48 : eStr Go.Proofs.Tryd.prog 48 = false := by kernel_rfl
@[simp] theorem tyZero48 : eZero Go.Proofs.Tryd.prog 48 = some [.nilFunc] := by kernel_rfl
@[simp] theorem tySz49 : eSz Go.Proofs.Tryd.prog 49 = some 1 := by kernel_rfl
@[simp] theorem tyAgg49 : eAgg Go.Proofs.Tryd.prog 49 = some false := by kernel_rfl
@[simp] theorem tyStr49 : eStr Go.Proofs.Tryd.prog 49 = false := by kernel_rfl
@[simp] theorem tySz50 : eSz Go.Proofs.Tryd.prog 50 = some 1 := by kernel_rfl
@[simp] theorem tyAgg50 : eAgg Go.Proofs.Tryd.prog 50 = some false := by kernel_rfl
@[simp] theorem tyStr50 : eStr Go.Proofs.Tryd.prog 50 = false := by kernel_rfl
@[simp] theorem tyZero50 : eZero Go.Proofs.Tryd.prog 50 = some [.nilFunc] := by kernel_rfl
@[simp] theorem tySz51 : eSz Go.Proofs.Tryd.prog 51 = some 1 := by kernel_rfl
@[simp] theorem tyAgg51 : eAgg Go.Proofs.Tryd.prog 51 = some false := by kernel_rfl
@[simp] theorem tyStr51 : eStr Go.Proofs.Tryd.prog 51 = false := by kernel_rfl
@[simp] theorem tyZero51 : eZero Go.Proofs.Tryd.prog 51 = some [.nilFunc] := by kernel_rfl
@[simp] theorem tySz52 : eSz Go.Proofs.Tryd.prog 52 = some 256 := by kernel_rfl
@[simp] theorem tyAgg52 : eAgg Go.Proofs.Tryd.prog 52 = some true := by kernel_rfl
@[simp] theorem tyStr52 : eStr Go.Proofs.Tryd.prog 52 = false := by kernel_rfl
@[simp] theorem tyArr52 : eArr Go.Proofs.Tryd.prog 52 = some (4, 256, 1) := by kernel_rfl
@[simp] theorem tySz53 : eSz Go.Proofs.Tryd.prog 53 = some 256 := by kernel_rfl
@[simp] theorem tyAgg53 : eAgg Go.Proofs.Tryd.prog 53 = some true := by kernel_rfl
@[simp] theorem tyStr53 : eStr Go.Proofs.Tryd.prog 53 = false := by kernel_rfl
@[simp] theorem tyArr53 : eArr Go.Proofs.Tryd.prog 53 = some (4, 256, 1) := by kernel_rfl
@[simp] theorem tySz54 : eSz Go.Proofs.Tryd.prog 54 = some 1 := by kernel_rfl
@[simp] theorem tyAgg54 : eAgg Go.Proofs.Tryd.prog 54 = some false := by kernel_rfl
@[simp] theorem tyStr54 : eStr Go.Proofs.Tryd.prog 54 = false := by kernel_rfl
@[simp] theorem tySz55 : eSz Go.Proofs.Tryd.prog 55 = some 1 := by kernel_rfl
@[simp] theorem tyAgg55 : eAgg Go.Proofs.Tryd.prog 55 = some false := by kernel_rfl
@[simp] theorem tyStr55 : eStr Go.Proofs.Tryd.prog 55 = false := by kernel_rfl
@[simp] theorem tyZero55 : eZero Go.Proofs.Tryd.prog 55 = some [.nilFunc] := by kernel_rfl
@[simp] theorem tySz56 : eSz Go.Proofs.Tryd.prog 56 = some 1 := by kernel_rfl
@[simp] theorem tyAgg56 : eAgg Go.Proofs.Tryd.prog 56 = some false := by kernel_rfl
@[simp] theorem tyStr56 : eStr Go.Proofs.Tryd.prog 56 = false := by kernel_rfl
@[simp] theorem tyZero56 : eZero Go.Proofs.Tryd.prog 56 = some [.nilFunc] := by kernel_rfl
@[simp] theorem tySz57 : eSz Go.Proofs.Tryd.prog 57 = some 1 := by kernel_rfl
@[simp] theorem tyAgg57 : eAgg Go.Proofs.Tryd.prog 57 = some false := by kernel_rfl
@[simp] theorem tyStr57 : eStr Go.Proofs.Tryd.prog 57 = false := by kernel_rfl
@[simp] theorem tyPtr57 : ePtr Go.Proofs.Tryd.prog 57 = true := by kernel_rfl
@[simp] theorem tyZero57 : eZero Go.Proofs.Tryd.prog 57 = some [.pointer none] := by kernel_rfl
@[simp] theorem tySz58 : eSz Go.Proofs.Tryd.prog 58 = some 1 := by kernel_rfl
@[simp] theorem tyAgg58 : eAgg Go.Proofs.Tryd.prog 58 = some false := by kernel_rfl
@[simp] theorem tyStr58 : eStr Go.Proofs.Tryd.prog 58 = false := by kernel_rfl
@[simp] theorem tyZero58 : eZero Go.Proofs.Tryd.prog 58 = some [.nilFunc] := by kernel_rfl
@[simp] theorem tySz59 : eSz Go.Proofs.Tryd.prog 59 = some 1 := by kernel_rfl
@[simp] theorem tyAgg59 : eAgg Go.Proofs.Tryd.prog 59 = some false := by kernel_rfl
@[simp] theorem tyStr59 : eStr Go.Proofs.Tryd.prog 59 = false := by kernel_rfl
@[simp] theorem tyInt59 : eInt Go.Proofs.Tryd.prog 59 = some .u64 := by kernel_rfl
@[simp] theorem tyZero59 : eZero Go.Proofs.Tryd.prog 59 = some [.int .u64 0] := by kernel_rfl
@[simp] theorem tySz60 : eSz Go.Proofs.Tryd.prog 60 = some 1 := by kernel_rfl
@[simp] theorem tyAgg60 : eAgg Go.Proofs.Tryd.prog 60 = some false := by kernel_rfl
@[simp] theorem tyStr60 : eStr Go.Proofs.Tryd.prog 60 = false := by kernel_rfl
@[simp] theorem tyZero60 : eZero Go.Proofs.Tryd.prog 60 = some [.nilFunc] := by kernel_rfl
@[simp] theorem tySz61 : eSz Go.Proofs.Tryd.prog 61 = some 1 := by kernel_rfl
@[simp] theorem tyAgg61 : eAgg Go.Proofs.Tryd.prog 61 = some false := by kernel_rfl
@[simp] theorem tyStr61 : eStr Go.Proofs.Tryd.prog 61 = false := by kernel_rfl
@[simp] theorem tyZero61 : eZero Go.Proofs.Tryd.prog 61 = some [.nilFunc] := by kernel_rfl
@[simp] theorem tySz62 : eSz Go.Proofs.Tryd.prog 62 = some 1 := by kernel_rfl
@[simp] theorem tyAgg62 : eAgg Go.Proofs.Tryd.prog 62 = some false := by kernel_rfl
@[simp] theorem tyStr62 : eStr Go.Proofs.Tryd.prog 62 = false := by kernel_rfl
@[simp] theorem tyZero62 : eZero Go.Proofs.Tryd.prog 62 = some [.nilFunc] := by kernel_rfl
@[simp] theorem tySz63 : eSz Go.Proofs.Tryd.prog 63 = some 1 := by kernel_rfl
@[simp] theorem tyAgg63 : eAgg Go.Proofs.Tryd.prog 63 = some false := by kernel_rfl
@[simp] theorem tyStr63 : eStr Go.Proofs.Tryd.prog 63 = false := by kernel_rfl
@[simp] theorem tySz64 : eSz Go.Proofs.Tryd.prog 64 = some 1 := by kernel_rfl
@[simp] theorem tyAgg64 : eAgg Go.Proofs.Tryd.prog 64 = some false := by kernel_rfl
@[simp] theorem tyStr64 : eStr Go.Proofs.Tryd.prog 64 = false := by kernel_rfl
@[simp] theorem tyZero64 : eZero Go.Proofs.Tryd.prog 64 = some [.nilFunc] := by kernel_rfl
@[simp] theorem tySz65 : eSz Go.Proofs.Tryd.prog 65 = some 1 := by kernel_rfl
@[simp] theorem tyAgg65 : eAgg Go.Proofs.Tryd.prog 65 = some false := by kernel_rfl
@[simp] theorem tyStr65 : eStr Go.Proofs.Tryd.prog 65 = false := by kernel_rfl
@[simp] theorem tyZero65 : eZero Go.Proofs.Tryd.prog 65 = some [.nilFunc] := by kernel_rfl
@[simp] theorem tySz66 : eSz Go.Proofs.Tryd.prog 66 = some 1 := by kernel_rfl
@[simp] theorem tyAgg66 : eAgg Go.Proofs.Tryd.prog 66 = some false := by kernel_rfl
@[simp] theorem tyStr66 : eStr Go.Proofs.Tryd.prog 66 = false := by kernel_rfl
@[simp] theorem tySz67 : eSz Go.Proofs.Tryd.prog 67 = some 1 := by kernel_rfl
@[simp] theorem tyAgg67 : eAgg Go.Proofs.Tryd.prog 67 = some false := by kernel_rfl
@[simp] theorem tyStr67 : eStr Go.Proofs.Tryd.prog 67 = false := by kernel_rfl
@[simp] theorem tyZero67 : eZero Go.Proofs.Tryd.prog 67 = some [.nilFunc] := by kernel_rfl
@[simp] theorem tySz68 : eSz Go.Proofs.Tryd.prog 68 = some 1 := by kernel_rfl
@[simp] theorem tyAgg68 : eAgg Go.Proofs.Tryd.prog 68 = some false := by kernel_rfl
@[simp] theorem tyStr68 : eStr Go.Proofs.Tryd.prog 68 = false := by kernel_rfl
@[simp] theorem tyZero68 : eZero Go.Proofs.Tryd.prog 68 = some [.nilFunc] := by kernel_rfl
@[simp] theorem tySz69 : eSz Go.Proofs.Tryd.prog 69 = some 1 := by kernel_rfl
@[simp] theorem tyAgg69 : eAgg Go.Proofs.Tryd.prog 69 = some false := by kernel_rfl
@[simp] theorem tyStr69 : eStr Go.Proofs.Tryd.prog 69 = false := by kernel_rfl
@[simp] theorem tyPtr69 : ePtr Go.Proofs.Tryd.prog 69 = true := by kernel_rfl
@[simp] theorem tyZero69 : eZero Go.Proofs.Tryd.prog 69 = some [.pointer none] := by kernel_rfl
@[simp] theorem tySz70 : eSz Go.Proofs.Tryd.prog 70 = some 2 := by kernel_rfl
@[simp] theorem tyAgg70 : eAgg Go.Proofs.Tryd.prog 70 = some true := by kernel_rfl
@[simp] theorem tyStr70 : eStr Go.Proofs.Tryd.prog 70 = false := by kernel_rfl
@[simp] theorem tyFld70_0 : eFld Go.Proofs.Tryd.prog 70 0 = some (69, 0) := by kernel_rfl
@[simp] theorem tyFld70_1 : eFld Go.Proofs.Tryd.prog 70 1 = some (36, 1) := by kernel_rfl
@[simp] theorem tyPl70 : ePl Go.Proofs.Tryd.prog 70 = some [(0, 1), (1, 1)] := by kernel_rfl
@[simp] theorem tyZero70 : eZero Go.Proofs.Tryd.prog 70 = some [.pointer none, .slice none 0 0] := by kernel_rfl
@[simp] theorem tySz71 : eSz Go.Proofs.Tryd.prog 71 = some 2 := by kernel_rfl
@[simp] theorem tyAgg71 : eAgg Go.Proofs.Tryd.prog 71 = some true := by kernel_rfl
@[simp] theorem tyStr71 : eStr Go.Proofs.Tryd.prog 71 = false := by kernel_rfl
@[simp] theorem tyFld71_0 : eFld Go.Proofs.Tryd.prog 71 0 = some (69, 0) := by kernel_rfl
@[simp] theorem tyFld71_1 : eFld Go.Proofs.Tryd.prog 71 1 = some (36, 1) := by kernel_rfl
@[simp] theorem tyPl71 : ePl Go.Proofs.Tryd.prog 71 = some [(0, 1), (1, 1)] := by kernel_rfl
@[simp] theorem tyZero71 : eZero Go.Proofs.Tryd.prog 71 = some [.pointer none, .slice none 0 0] := by kernel_rfl
@[simp] theorem tySz72 : eSz Go.Proofs.Tryd.prog 72 = some 1 := by kernel_rfl
@[simp] theorem tyAgg72 : eAgg Go.Proofs.Tryd.prog 72 = some false := by kernel_rfl
@[simp] theorem tyStr72 : eStr Go.Proofs.Tryd.prog 72 = false := by kernel_rfl
@[simp] theorem tyZero72 : eZero Go.Proofs.Tryd.prog 72 = some [.nilFunc] := by kernel_rfl
@[simp] theorem tySz73 : eSz Go.Proofs.Tryd.prog 73 = some 1 := by kernel_rfl
@[simp] theorem tyAgg73 : eAgg Go.Proofs.Tryd.prog 73 = some false := by kernel_rfl
@[simp] theorem tyStr73 : eStr Go.Proofs.Tryd.prog 73 = false := by kernel_rfl
@[simp] theorem tyZero73 : eZero Go.Proofs.Tryd.prog 73 = some [.nilIface] := by kernel_rfl
@[simp] theorem tySz74 : eSz Go.Proofs.Tryd.prog 74 = some 1 := by kernel_rfl
@[simp] theorem tyAgg74 : eAgg Go.Proofs.Tryd.prog 74 = some false := by kernel_rfl
@[simp] theorem tyStr74 : eStr Go.Proofs.Tryd.prog 74 = false := by kernel_rfl
@[simp] theorem tyZero74 : eZero Go.Proofs.Tryd.prog 74 = some [.nilIface] := by kernel_rfl
@[simp] theorem tySz75 : eSz Go.Proofs.Tryd.prog 75 = some 1 := by kernel_rfl
@[simp] theorem tyAgg75 : eAgg Go.Proofs.Tryd.prog 75 = some false := by kernel_rfl
@[simp] theorem tyStr75 : eStr Go.Proofs.Tryd.prog 75 = false := by kernel_rfl
@[simp] theorem tySz76 : eSz Go.Proofs.Tryd.prog 76 = some 1 := by kernel_rfl
@[simp] theorem tyAgg76 : eAgg Go.Proofs.Tryd.prog 76 = some false := by kernel_rfl
@[simp] theorem tyStr76 : eStr Go.Proofs.Tryd.prog 76 = false := by kernel_rfl
@[simp] theorem tyZero76 : eZero Go.Proofs.Tryd.prog 76 = some [.nilFunc] := by kernel_rfl
@[simp] theorem tySz77 : eSz Go.Proofs.Tryd.prog 77 = some 1 := by kernel_rfl
@[simp] theorem tyAgg77 : eAgg Go.Proofs.Tryd.prog 77 = some false := by kernel_rfl
@[simp] theorem tyStr77 : eStr Go.Proofs.Tryd.prog 77 = false := by kernel_rfl
@[simp] theorem tyZero77 : eZero Go.Proofs.Tryd.prog 77 = some [.nilFunc] := by kernel_rfl
@[simp] theorem tySz78 : eSz Go.Proofs.Tryd.prog 78 = some 1 := by kernel_rfl
@[simp] theorem tyAgg78 : eAgg Go.Proofs.Tryd.prog 78 = some false := by kernel_rfl
@[simp] theorem tyStr78 : eStr Go.Proofs.Tryd.prog 78 = false := by kernel_rfl
@[simp] theorem tyZero78 : eZero Go.Proofs.Tryd.prog 78 = some [.nilFunc] := by kernel_rfl
@[simp] theorem tySz79 : eSz Go.Proofs.Tryd.prog 79 = some 1 := by kernel_rfl
@[simp] theorem tyAgg79 : eAgg Go.Proofs.Tryd.prog 79 = some false := by kernel_rfl
@[simp] theorem tyStr79 : eStr Go.Proofs.Tryd.prog 79 = false := by kernel_rfl
@[simp] theorem tyZero79 : eZero Go.Proofs.Tryd.prog 79 = some [.nilFunc] := by kernel_rfl
@[simp] theorem tySz80 : eSz Go.Proofs.Tryd.prog 80 = some 1 := by kernel_rfl
@[simp] theorem tyAgg80 : eAgg Go.Proofs.Tryd.prog 80 = some false := by kernel_rfl
@[simp] theorem tyStr80 : eStr Go.Proofs.Tryd.prog 80 = false := by kernel_rfl
@[simp] theorem tyZero80 : eZero Go.Proofs.Tryd.prog 80 = some [.nilFunc] := by kernel_rfl
@[simp] theorem tySz81 : eSz Go.Proofs.Tryd.prog 81 = some 1 := by kernel_rfl
@[simp] theorem tyAgg81 : eAgg Go.Proofs.Tryd.prog 81 = some false := by kernel_rfl
@[simp] theorem tyStr81 : eStr Go.Proofs.Tryd.prog 81 = false := by kernel_rfl
@[simp] theorem tyPtr81 : ePtr Go.Proofs.Tryd.prog 81 = true := by kernel_rfl
@[simp] theorem tyZero81 : eZero Go.Proofs.Tryd.prog 81 = some [.pointer none] := by kernel_rfl
@[simp] theorem tySz82 : eSz Go.Proofs.Tryd.prog 82 = some 256 := by kernel_rfl
@[simp] theorem tyAgg82 : eAgg Go.Proofs.Tryd.prog 82 = some true := by kernel_rfl
@[simp] theorem tyStr82 : eStr Go.Proofs.Tryd.prog 82 = false := by kernel_rfl
@[simp] theorem tyArr82 : eArr Go.Proofs.Tryd.prog 82 = some (5, 256, 1) := by kernel_rfl
@[simp] theorem tySz83 : eSz Go.Proofs.Tryd.prog 83 = some 2 := by kernel_rfl
@[simp] theorem tyAgg83 : eAgg Go.Proofs.Tryd.prog 83 = some true := by kernel_rfl
@[simp] theorem tyStr83 : eStr Go.Proofs.Tryd.prog 83 = false := by kernel_rfl
@[simp] theorem tyFld83_0 : eFld Go.Proofs.Tryd.prog 83 0 = some (5, 0) := by kernel_rfl
@[simp] theorem tyFld83_1 : eFld Go.Proofs.Tryd.prog 83 1 = some (5, 1) := by kernel_rfl
@[simp] theorem tyPl83 : ePl Go.Proofs.Tryd.prog 83 = some [(0, 1), (1, 1)] := by kernel_rfl
@[simp] theorem tyZero83 : eZero Go.Proofs.Tryd.prog 83 = some [.int .u8 0, .int .u8 0] := by kernel_rfl
@[simp] theorem tySz84 : eSz Go.Proofs.Tryd.prog 84 = some 2 := by kernel_rfl
@[simp] theorem tyAgg84 : eAgg Go.Proofs.Tryd.prog 84 = some true := by kernel_rfl
@[simp] theorem tyStr84 : eStr Go.Proofs.Tryd.prog 84 = false := by kernel_rfl
@[simp] theorem tyFld84_0 : eFld Go.Proofs.Tryd.prog 84 0 = some (5, 0) := by kernel_rfl
@[simp] theorem tyFld84_1 : eFld Go.Proofs.Tryd.prog 84 1 = some (5, 1) := by kernel_rfl
@[simp] theorem tyPl84 : ePl Go.Proofs.Tryd.prog 84 = some [(0, 1), (1, 1)] := by kernel_rfl
@[simp] theorem tyZero84 : eZero Go.Proofs.Tryd.prog 84 = some [.int .u8 0, .int .u8 0] := by kernel_rfl
@[simp] theorem tySz85 : eSz Go.Proofs.Tryd.prog 85 = some 32 := by kernel_rfl
@[simp] theorem tyAgg85 : eAgg Go.Proofs.Tryd.prog 85 = some true := by kernel_rfl
@[simp] theorem tyStr85 : eStr Go.Proofs.Tryd.prog 85 = false := by kernel_rfl
@[simp] theorem tyArr85 : eArr Go.Proofs.Tryd.prog 85 = some (84, 16, 2) := by kernel_rfl
@[simp] theorem tyPl85 : ePl Go.Proofs.Tryd.prog 85 = some [(0, 2), (2, 2), (4, 2), (6, 2), (8, 2), (10, 2), (12, 2), (14, 2), (16, 2), (18, 2), (20, 2), (22, 2), (24, 2), (26, 2), (28, 2), (30, 2)] := by kernel_rfl
@[simp] theorem tyZero85 : eZero Go.Proofs.Tryd.prog 85 = some [.int .u8 0, .int .u8 0, .int .u8 0, .int .u8 0, .int .u8 0, .int .u8 0, .int .u8 0, .int .u8 0, .int .u8 0, .int .u8 0, .int .u8 0, .int .u8 0, .int .u8 0, .int .u8 0, .int .u8 0, .int .u8 0, .int .u8 0, .int .u8 0, .int .u8 0, .int .u8 0, .int .u8 0, .int .u8 0, .int .u8 0, .int .u8 0, .int .u8 0, .int .u8 0, .int .u8 0, .int .u8 0, .int .u8 0, .int .u8 0, .int .u8 0, .int .u8 0] := by kernel_rfl
@[simp] theorem tySz86 : eSz Go.Proofs.Tryd.prog 86 = some 1 := by kernel_rfl
@[simp] theorem tyAgg86 : eAgg Go.Proofs.Tryd.prog 86 = some false := by kernel_rfl
@[simp] theorem tyStr86 : eStr Go.Proofs.Tryd.prog 86 = false := by kernel_rfl
@[simp] theorem tyZero86 : eZero Go.Proofs.Tryd.prog 86 = some [.nilFunc] := by kernel_rfl
@[simp] theorem tySz87 : eSz Go.Proofs.Tryd.prog 87 = some 1 := by kernel_rfl
@[simp] theorem tyAgg87 : eAgg Go.Proofs.Tryd.prog 87 = some false := by kernel_rfl
@[simp] theorem tyStr87 : eStr Go.Proofs.Tryd.prog 87 = false := by kernel_rfl
@[simp] theorem tyZero87 : eZero Go.Proofs.Tryd.prog 87 = some [.nilFunc] := by kernel_rfl
@[simp] theorem tySz88 : eSz Go.Proofs.Tryd.prog 88 = some 1 := by kernel_rfl
@[simp] theorem tyAgg88 : eAgg Go.Proofs.Tryd.prog 88 = some false := by kernel_rfl
@[simp] theorem tyStr88 : eStr Go.Proofs.Tryd.prog 88 = false := by kernel_rfl
@[simp] theorem tyZero88 : eZero Go.Proofs.Tryd.prog 88 = some [.pointer none] := by kernel_rfl
@[simp] theorem tySz89 : eSz Go.Proofs.Tryd.prog 89 = some 1 := by kernel_rfl
@[simp] theorem tyAgg89 : eAgg Go.Proofs.Tryd.prog 89 = some false := by kernel_rfl
@[simp] theorem tyStr89 : eStr Go.Proofs.Tryd.prog 89 = false := by kernel_rfl
@[simp] theorem tyZero89 : eZero Go.Proofs.Tryd.prog 89 = some [.nilFunc] := by kernel_rfl
@[simp] theorem tySz90 : eSz Go.Proofs.Tryd.prog 90 = some 1 := by kernel_rfl
@[simp] theorem tyAgg90 : eAgg Go.Proofs.Tryd.prog 90 = some false := by kernel_rfl
@[simp] theorem tyStr90 : eStr Go.Proofs.Tryd.prog 90 = false := by kernel_rfl
@[simp] theorem tyZero90 : eZero Go.Proofs.Tryd.prog 90 = some [.nilFunc] := by kernel_rfl
@[simp] theorem tySz91 : eSz Go.Proofs.Tryd.prog 91 = some 1 := by kernel_rfl
@[simp] theorem tyAgg91 : eAgg Go.Proofs.Tryd.prog 91 = some false := by kernel_rfl
@[simp] theorem tyStr91 : eStr Go.Proofs.Tryd.prog 91 = false := by kernel_rfl
@[simp] theorem tyInt91 : eInt Go.Proofs.Tryd.prog 91 = some .u32 := by kernel_rfl
@[simp] theorem tyZero91 : eZero Go.Proofs.Tryd.prog 91 = some [.int .u32 0] := by kernel_rfl
@[simp] theorem tySz92 : eSz Go.Proofs.Tryd.prog 92 = some 1 := by kernel_rfl
@[simp] theorem tyAgg92 : eAgg Go.Proofs.Tryd.prog 92 = some false := by kernel_rfl
@[simp] theorem tyStr92 : eStr Go.Proofs.Tryd.prog 92 = false := by kernel_rfl
@[simp] theorem tySz93 : eSz Go.Proofs.Tryd.prog 93 = some 1 := by kernel_rfl
@[simp] theorem tyAgg93 : eAgg Go.Proofs.Tryd.prog 93 = some false := by kernel_rfl
@[simp] theorem tyStr93 : eStr Go.Proofs.Tryd.prog 93 = false := by kernel_rfl
@[simp] theorem tyZero93 : eZero Go.Proofs.Tryd.prog 93 = some [.nilFunc] := by kernel_rfl
@[simp] theorem tySz94 : eSz Go.Proofs.Tryd.prog 94 = some 4 := by kernel_rfl
@[simp] theorem tyAgg94 : eAgg Go.Proofs.Tryd.prog 94 = some true := by kernel_rfl
@[simp] theorem tyStr94 : eStr Go.Proofs.Tryd.prog 94 = false := by kernel_rfl
@[simp] theorem tyFld94_0 : eFld Go.Proofs.Tryd.prog 94 0 = some (17, 0) := by kernel_rfl
@[simp] theorem tyFld94_1 : eFld Go.Proofs.Tryd.prog 94 1 = some (17, 1) := by kernel_rfl
@[simp] theorem tyFld94_2 : eFld Go.Proofs.Tryd.prog 94 2 = some (17, 2) := by kernel_rfl
@[simp] theorem tyFld94_3 : eFld Go.Proofs.Tryd.prog 94 3 = some (9, 3) := by kernel_rfl
@[simp] theorem tyPl94 : ePl Go.Proofs.Tryd.prog 94 = some [(0, 1), (1, 1), (2, 1), (3, 1)] := by kernel_rfl
@[simp] theorem tyZero94 : eZero Go.Proofs.Tryd.prog 94 = some [.pointer none, .pointer none, .pointer none, .string .empty] := by kernel_rfl
@[simp] theorem tySz95 : eSz Go.Proofs.Tryd.prog 95 = some 4 := by kernel_rfl
@[simp] theorem tyAgg95 : eAgg Go.Proofs.Tryd.prog 95 = some true := by kernel_rfl
@[simp] theorem tyStr95 : eStr Go.Proofs.Tryd.prog 95 = false := by kernel_rfl
@[simp] theorem tyFld95_0 : eFld Go.Proofs.Tryd.prog 95 0 = some (17, 0) := by kernel_rfl
@[simp] theorem tyFld95_1 : eFld Go.Proofs.Tryd.prog 95 1 = some (17, 1) := by kernel_rfl
@[simp] theorem tyFld95_2 : eFld Go.Proofs.Tryd.prog 95 2 = some (17, 2) := by kernel_rfl
@[simp] theorem tyFld95_3 : eFld Go.Proofs.Tryd.prog 95 3 = some (9, 3) := by kernel_rfl
@[simp] theorem tyPl95 : ePl Go.Proofs.Tryd.prog 95 = some [(0, 1), (1, 1), (2, 1), (3, 1)] := by kernel_rfl
@[simp] theorem tyZero95 : eZero Go.Proofs.Tryd.prog 95 = some [.pointer none, .pointer none, .pointer none, .string .empty] := by kernel_rfl
@[simp] theorem tySz96 : eSz Go.Proofs.Tryd.prog 96 = some 0 := by kernel_rfl
@[simp] theorem tyAgg96 : eAgg Go.Proofs.Tryd.prog 96 = some true := by kernel_rfl
@[simp] theorem tyStr96 : eStr Go.Proofs.Tryd.prog 96 = false := by kernel_rfl
@[simp] theorem tyArr96 : eArr Go.Proofs.Tryd.prog 96 = some (16, 0, 1) := by kernel_rfl
@[simp] theorem tyPl96 : ePl Go.Proofs.Tryd.prog 96 = some [] := by kernel_rfl
@[simp] theorem tyZero96 : eZero Go.Proofs.Tryd.prog 96 = some [] := by kernel_rfl
@[simp] theorem tySz97 : eSz Go.Proofs.Tryd.prog 97 = some 0 := by kernel_rfl
@[simp] theorem tyAgg97 : eAgg Go.Proofs.Tryd.prog 97 = some true := by kernel_rfl
@[simp] theorem tyStr97 : eStr Go.Proofs.Tryd.prog 97 = false := by kernel_rfl
@[simp] theorem tyPl97 : ePl Go.Proofs.Tryd.prog 97 = some [(0, 0)] := by kernel_rfl
@[simp] theorem tyZero97 : eZero Go.Proofs.Tryd.prog 97 = some [] := by kernel_rfl
@[simp] theorem tySz98 : eSz Go.Proofs.Tryd.prog 98 = some 0 := by kernel_rfl
@[simp] theorem tyAgg98 : eAgg Go.Proofs.Tryd.prog 98 = some true := by kernel_rfl
@[simp] theorem tyStr98 : eStr Go.Proofs.Tryd.prog 98 = false := by kernel_rfl
@[simp] theorem tyPl98 : ePl Go.Proofs.Tryd.prog 98 = some [(0, 0)] := by kernel_rfl
@[simp] theorem tyZero98 : eZero Go.Proofs.Tryd.prog 98 = some [] := by kernel_rfl
@[simp] theorem tySz99 : eSz Go.Proofs.Tryd.prog 99 = some 1 := by kernel_rfl
@[simp] theorem tyAgg99 : eAgg Go.Proofs.Tryd.prog 99 = some false := by kernel_rfl
@[simp] theorem tyStr99 : eStr Go.Proofs.Tryd.prog 99 = false := by kernel_rfl
@[simp] theorem tyZero99 : eZero Go.Proofs.Tryd.prog 99 = some [.nilFunc] := by kernel_rfl
@[simp] theorem tySz100 : eSz Go.Proofs.Tryd.prog 100 = some 1 := by kernel_rfl
@[simp] theorem tyAgg100 : eAgg Go.Proofs.Tryd.prog 100 = some false := by kernel_rfl
@[simp] theorem tyStr100 : eStr Go.Proofs.Tryd.prog 100 = false := by kernel_rfl
@[simp] theorem tyInt100 : eInt Go.Proofs.Tryd.prog 100 = some .u8 := by kernel_rfl
@[simp] theorem tyZero100 : eZero Go.Proofs.Tryd.prog 100 = some [.int .u8 0] := by kernel_rfl
@[simp] theorem tySz101 : eSz Go.Proofs.Tryd.prog 101 = some 1 := by kernel_rfl
@[simp] theorem tyAgg101 : eAgg Go.Proofs.Tryd.prog 101 = some false := by kernel_rfl
@[simp] theorem tyStr101 : eStr Go.Proofs.Tryd.prog 101 = false := by kernel_rfl
@[simp] theorem tyInt101 : eInt Go.Proofs.Tryd.prog 101 = some .u8 := by kernel_rfl
@[simp] theorem tyZero101 : eZero Go.Proofs.Tryd.prog 101 = some [.int .u8 0] := by kernel_rfl
@[simp] theorem tySz102 : eSz Go.Proofs.Tryd.prog 102 = some 1 := by kernel_rfl
@[simp] theorem tyAgg102 : eAgg Go.Proofs.Tryd.prog 102 = some false := by kernel_rfl
@[simp] theorem tyStr102 : eStr Go.Proofs.Tryd.prog 102 = false := by kernel_rfl
@[simp] theorem tyZero102 : eZero Go.Proofs.Tryd.prog 102 = some [.nilFunc] := by kernel_rfl
@[simp] theorem tySz103 : eSz Go.Proofs.Tryd.prog 103 = some 1 := by kernel_rfl
@[simp] theorem tyAgg103 : eAgg Go.Proofs.Tryd.prog 103 = some false := by kernel_rfl
@[simp] theorem tyStr103 : eStr Go.Proofs.Tryd.prog 103 = false := by kernel_rfl
@[simp] theorem tyInt103 : eInt Go.Proofs.Tryd.prog 103 = some .i32 := by kernel_rfl
@[simp] theorem tyZero103 : eZero Go.Proofs.Tryd.prog 103 = some [.int .i32 0] := by kernel_rfl
@[simp] theorem tySz104 : eSz Go.Proofs.Tryd.prog 104 = some 1 := by kernel_rfl
@[simp] theorem tyAgg104 : eAgg Go.Proofs.Tryd.prog 104 = some false := by kernel_rfl
@[simp] theorem tyStr104 : eStr Go.Proofs.Tryd.prog 104 = false := by kernel_rfl
@[simp] theorem tyInt104 : eInt Go.Proofs.Tryd.prog 104 = some .i32 := by kernel_rfl
@[simp] theorem tyZero104 : eZero Go.Proofs.Tryd.prog 104 = some [.int .i32 0] := by kernel_rfl
@[simp] theorem tySz105 : eSz Go.Proofs.Tryd.prog 105 = some 11 := by kernel_rfl
@[simp] theorem tyAgg105 : eAgg Go.Proofs.Tryd.prog 105 = some true := by kernel_rfl
@[simp] theorem tyStr105 : eStr Go.Proofs.Tryd.prog 105 = false := by kernel_rfl
@[simp] theorem tyFld105_0 : eFld Go.Proofs.Tryd.prog 105 0 = some (12, 0) := by kernel_rfl
@[simp] theorem tyFld105_1 : eFld Go.Proofs.Tryd.prog 105 1 = some (12, 1) := by kernel_rfl
@[simp] theorem tyFld105_2 : eFld Go.Proofs.Tryd.prog 105 2 = some (91, 2) := by kernel_rfl
@[simp] theorem tyFld105_3 : eFld Go.Proofs.Tryd.prog 105 3 = some (100, 3) := by kernel_rfl
@[simp] theorem tyFld105_4 : eFld Go.Proofs.Tryd.prog 105 4 = some (5, 4) := by kernel_rfl
@[simp] theorem tyFld105_5 : eFld Go.Proofs.Tryd.prog 105 5 = some (5, 5) := by kernel_rfl
@[simp] theorem tyFld105_6 : eFld Go.Proofs.Tryd.prog 105 6 = some (101, 6) := by kernel_rfl
@[simp] theorem tyFld105_7 : eFld Go.Proofs.Tryd.prog 105 7 = some (102, 7) := by kernel_rfl
@[simp] theorem tyFld105_8 : eFld Go.Proofs.Tryd.prog 105 8 = some (81, 8) := by kernel_rfl
@[simp] theorem tyFld105_9 : eFld Go.Proofs.Tryd.prog 105 9 = some (103, 9) := by kernel_rfl
@[simp] theorem tyFld105_10 : eFld Go.Proofs.Tryd.prog 105 10 = some (104, 10) := by kernel_rfl
@[simp] theorem tyPl105 : ePl Go.Proofs.Tryd.prog 105 = some [(0, 1), (1, 1), (2, 1), (3, 1), (4, 1), (5, 1), (6, 1), (7, 1), (8, 1), (9, 1), (10, 1)] := by kernel_rfl
@[simp] theorem tyZero105 : eZero Go.Proofs.Tryd.prog 105 = some [.int .u64 0, .int .u64 0, .int .u32 0, .int .u8 0, .int .u8 0, .int .u8 0, .int .u8 0, .nilFunc, .pointer none, .int .i32 0, .int .i32 0] := by kernel_rfl
@[simp] theorem tySz106 : eSz Go.Proofs.Tryd.prog 106 = some 11 := by kernel_rfl
@[simp] theorem tyAgg106 : eAgg Go.Proofs.Tryd.prog 106 = some true := by kernel_rfl
@[simp] theorem tyStr106 : eStr Go.Proofs.Tryd.prog 106 = false := by kernel_rfl
@[simp] theorem tyFld106_0 : eFld Go.Proofs.Tryd.prog 106 0 = some (12, 0) := by kernel_rfl
@[simp] theorem tyFld106_1 : eFld Go.Proofs.Tryd.prog 106 1 = some (12, 1) := by kernel_rfl
@[simp] theorem tyFld106_2 : eFld Go.Proofs.Tryd.prog 106 2 = some (91, 2) := by kernel_rfl
@[simp] theorem tyFld106_3 : eFld Go.Proofs.Tryd.prog 106 3 = some (100, 3) := by kernel_rfl
@[simp] theorem tyFld106_4 : eFld Go.Proofs.Tryd.prog 106 4 = some (5, 4) := by kernel_rfl
@[simp] theorem tyFld106_5 : eFld Go.Proofs.Tryd.prog 106 5 = some (5, 5) := by kernel_rfl
@[simp] theorem tyFld106_6 : eFld Go.Proofs.Tryd.prog 106 6 = some (101, 6) := by kernel_rfl
@[simp] theorem tyFld106_7 : eFld Go.Proofs.Tryd.prog 106 7 = some (102, 7) := by kernel_rfl
@[simp] theorem tyFld106_8 : eFld Go.Proofs.Tryd.prog 106 8 = some (81, 8) := by kernel_rfl
@[simp] theorem tyFld106_9 : eFld Go.Proofs.Tryd.prog 106 9 = some (103, 9) := by kernel_rfl
@[simp] theorem tyFld106_10 : eFld Go.Proofs.Tryd.prog 106 10 = some (104, 10) := by kernel_rfl
@[simp] theorem tyPl106 : ePl Go.Proofs.Tryd.prog 106 = some [(0, 1), (1, 1), (2, 1), (3, 1), (4, 1), (5, 1), (6, 1), (7, 1), (8, 1), (9, 1), (10, 1)] := by kernel_rfl
@[simp] theorem tyZero106 : eZero Go.Proofs.Tryd.prog 106 = some [.int .u64 0, .int .u64 0, .int .u32 0, .int .u8 0, .int .u8 0, .int .u8 0, .int .u8 0, .nilFunc, .pointer none, .int .i32 0, .int .i32 0] := by kernel_rfl
@[simp] theorem tyEq22 : eEq Go.Proofs.Tryd.prog 22 = some [1, 1, 1, 1, 1, 2, 1, 2] := by kernel_rfl
@[simp] theorem tyEq23 : eEq Go.Proofs.Tryd.prog 23 = some [1, 1, 1, 1, 1, 2, 1, 2] := by kernel_rfl
@[simp] theorem tyEq45 : eEq Go.Proofs.Tryd.prog 45 = some [1, 0, 1, 1, 1, 1, 1, 2, 1, 2] := by kernel_rfl
@[simp] theorem tyEq46 : eEq Go.Proofs.Tryd.prog 46 = some [1, 0, 1, 1, 1, 1, 1, 2, 1, 2] := by kernel_rfl
@[simp] theorem tyEq83 : eEq Go.Proofs.Tryd.prog 83 = some [0, 0] := by kernel_rfl
@[simp] theorem tyEq84 : eEq Go.Proofs.Tryd.prog 84 = some [0, 0] := by kernel_rfl
end Go.Lw
