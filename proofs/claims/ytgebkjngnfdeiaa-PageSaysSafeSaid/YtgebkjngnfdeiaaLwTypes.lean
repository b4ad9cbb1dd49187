/-
  CLOSED FACTS ON THE TYPES OF THIS PROGRAM (printed by a program of ours; each is checked by the kernel).
-/
import Derived.Test.YtgebkjngnfdeiaaLwRun
import Derived.Test.YtgebkjngnfdeiaaRows
set_option linter.unusedSimpArgs false
set_option linter.unusedVariables false
namespace Go.Lw
@[simp] theorem tySz0 : eSz Go.Proofs.Try.prog 0 = some 1 := by kernel_rfl
@[simp] theorem tyAgg0 : eAgg Go.Proofs.Try.prog 0 = some false := by kernel_rfl
@[simp] theorem tyStr0 : eStr Go.Proofs.Try.prog 0 = false := by kernel_rfl
@[simp] theorem tySz1 : eSz Go.Proofs.Try.prog 1 = some 1 := by kernel_rfl
@[simp] theorem tyAgg1 : eAgg Go.Proofs.Try.prog 1 = some false := by kernel_rfl
@[simp] theorem tyStr1 : eStr Go.Proofs.Try.prog 1 = false := by kernel_rfl
@[simp] theorem tyZero1 : eZero Go.Proofs.Try.prog 1 = some [.nilFunc] := by kernel_rfl
@[simp] theorem tySz2 : eSz Go.Proofs.Try.prog 2 = some 1 := by kernel_rfl
@[simp] theorem tyAgg2 : eAgg Go.Proofs.Try.prog 2 = some false := by kernel_rfl
@[simp] theorem tyStr2 : eStr Go.Proofs.Try.prog 2 = false := by kernel_rfl
@[simp] theorem tyInt2 : eInt Go.Proofs.Try.prog 2 = some .i64 := by kernel_rfl
@[simp] theorem tyZero2 : eZero Go.Proofs.Try.prog 2 = some [.int .i64 0] := by kernel_rfl
@[simp] theorem tySz3 : eSz Go.Proofs.Try.prog 3 = some 1 := by kernel_rfl
@[simp] theorem tyAgg3 : eAgg Go.Proofs.Try.prog 3 = some false := by kernel_rfl
@[simp] theorem tyStr3 : eStr Go.Proofs.Try.prog 3 = false := by kernel_rfl
@[simp] theorem tyInt3 : eInt Go.Proofs.Try.prog 3 = some .i64 := by kernel_rfl
@[simp] theorem tyZero3 : eZero Go.Proofs.Try.prog 3 = some [.int .i64 0] := by kernel_rfl
@[simp] theorem tySz4 : eSz Go.Proofs.Try.prog 4 = some 1 := by kernel_rfl
@[simp] theorem tyAgg4 : eAgg Go.Proofs.Try.prog 4 = some false := by kernel_rfl
@[simp] theorem tyStr4 : eStr Go.Proofs.Try.prog 4 = false := by kernel_rfl
@[simp] theorem tyBool4 : eBool Go.Proofs.Try.prog 4 = true := by kernel_rfl
@[simp] theorem tyZero4 : eZero Go.Proofs.Try.prog 4 = some [.bool false] := by kernel_rfl
@[simp] theorem tySz5 : eSz Go.Proofs.Try.prog 5 = some 1 := by kernel_rfl
@[simp] theorem tyAgg5 : eAgg Go.Proofs.Try.prog 5 = some false := by kernel_rfl
@[simp] theorem tyStr5 : eStr Go.Proofs.Try.prog 5 = false := by kernel_rfl
@[simp] theorem tyInt5 : eInt Go.Proofs.Try.prog 5 = some .u8 := by kernel_rfl
@[simp] theorem tyZero5 : eZero Go.Proofs.Try.prog 5 = some [.int .u8 0] := by kernel_rfl
@[simp] theorem tySz6 : eSz Go.Proofs.Try.prog 6 = some 1 := by kernel_rfl
@[simp] theorem tyAgg6 : eAgg Go.Proofs.Try.prog 6 = some false := by kernel_rfl
@[simp] theorem tyStr6 : eStr Go.Proofs.Try.prog 6 = false := by kernel_rfl
@[simp] theorem tyInt6 : eInt Go.Proofs.Try.prog 6 = some .u8 := by kernel_rfl
@[simp] theorem tyZero6 : eZero Go.Proofs.Try.prog 6 = some [.int .u8 0] := by kernel_rfl
@[simp] theorem tySz7 : eSz Go.Proofs.Try.prog 7 = some 4 := by kernel_rfl
@[simp] theorem tyAgg7 : eAgg Go.Proofs.Try.prog 7 = some true := by kernel_rfl
@[simp] theorem tyStr7 : eStr Go.Proofs.Try.prog 7 = false := by kernel_rfl
@[simp] theorem tyFld7_0 : eFld Go.Proofs.Try.prog 7 0 = some (2, 0) := by kernel_rfl
@[simp] theorem tyFld7_1 : eFld Go.Proofs.Try.prog 7 1 = some (3, 1) := by kernel_rfl
@[simp] theorem tyFld7_2 : eFld Go.Proofs.Try.prog 7 2 = some (4, 2) := by kernel_rfl
@[simp] theorem tyFld7_3 : eFld Go.Proofs.Try.prog 7 3 = some (6, 3) := by kernel_rfl
@[simp] theorem tyPl7 : ePl Go.Proofs.Try.prog 7 = some [(0, 1), (1, 1), (2, 1), (3, 1)] := by kernel_rfl
@[simp] theorem tyZero7 : eZero Go.Proofs.Try.prog 7 = some [.int .i64 0, .int .i64 0, .bool false, .int .u8 0] := by kernel_rfl
@[simp] theorem tySz8 : eSz Go.Proofs.Try.prog 8 = some 4 := by kernel_rfl
@[simp] theorem tyAgg8 : eAgg Go.Proofs.Try.prog 8 = some true := by kernel_rfl
@[simp] theorem tyStr8 : eStr Go.Proofs.Try.prog 8 = false := by kernel_rfl
@[simp] theorem tyFld8_0 : eFld Go.Proofs.Try.prog 8 0 = some (2, 0) := by kernel_rfl
@[simp] theorem tyFld8_1 : eFld Go.Proofs.Try.prog 8 1 = some (3, 1) := by kernel_rfl
@[simp] theorem tyFld8_2 : eFld Go.Proofs.Try.prog 8 2 = some (4, 2) := by kernel_rfl
@[simp] theorem tyFld8_3 : eFld Go.Proofs.Try.prog 8 3 = some (6, 3) := by kernel_rfl
@[simp] theorem tyPl8 : ePl Go.Proofs.Try.prog 8 = some [(0, 1), (1, 1), (2, 1), (3, 1)] := by kernel_rfl
@[simp] theorem tyZero8 : eZero Go.Proofs.Try.prog 8 = some [.int .i64 0, .int .i64 0, .bool false, .int .u8 0] := by kernel_rfl
@[simp] theorem tySz9 : eSz Go.Proofs.Try.prog 9 = some 1 := by kernel_rfl
@[simp] theorem tyAgg9 : eAgg Go.Proofs.Try.prog 9 = some false := by kernel_rfl
@[simp] theorem tyStr9 : eStr Go.Proofs.Try.prog 9 = true := by kernel_rfl
@[simp] theorem tyInt9 : eInt Go.Proofs.Try.prog 9 = none := by kernel_rfl
@[simp] theorem tyZero9 : eZero Go.Proofs.Try.prog 9 = some [.string .empty] := by kernel_rfl
@[simp] theorem tySz10 : eSz Go.Proofs.Try.prog 10 = some 1 := by kernel_rfl
@[simp] theorem tyAgg10 : eAgg Go.Proofs.Try.prog 10 = some false := by kernel_rfl
@[simp] theorem tyStr10 : eStr Go.Proofs.Try.prog 10 = true := by kernel_rfl
@[simp] theorem tyInt10 : eInt Go.Proofs.Try.prog 10 = none := by kernel_rfl
@[simp] theorem tyZero10 : eZero Go.Proofs.Try.prog 10 = some [.string .empty] := by kernel_rfl
@[simp] theorem tySz11 : eSz Go.Proofs.Try.prog 11 = some 1 := by kernel_rfl
@[simp] theorem tyAgg11 : eAgg Go.Proofs.Try.prog 11 = some false := by kernel_rfl
@[simp] theorem tyStr11 : eStr Go.Proofs.Try.prog 11 = true := by kernel_rfl
@[simp] theorem tyInt11 : eInt Go.Proofs.Try.prog 11 = none := by kernel_rfl
@[simp] theorem tyZero11 : eZero Go.Proofs.Try.prog 11 = some [.string .empty] := by kernel_rfl
@[simp] theorem tySz12 : eSz Go.Proofs.Try.prog 12 = some 1 := by kernel_rfl
@[simp] theorem tyAgg12 : eAgg Go.Proofs.Try.prog 12 = some false := by kernel_rfl
@[simp] theorem tyStr12 : eStr Go.Proofs.Try.prog 12 = false := by kernel_rfl
@[simp] theorem tyInt12 : eInt Go.Proofs.Try.prog 12 = some .u64 := by kernel_rfl
@[simp] theorem tyZero12 : eZero Go.Proofs.Try.prog 12 = some [.int .u64 0] := by kernel_rfl
@[simp] theorem tySz13 : eSz Go.Proofs.Try.prog 13 = some 2 := by kernel_rfl
@[simp] theorem tyAgg13 : eAgg Go.Proofs.Try.prog 13 = some true := by kernel_rfl
@[simp] theorem tyStr13 : eStr Go.Proofs.Try.prog 13 = false := by kernel_rfl
@[simp] theorem tyFld13_0 : eFld Go.Proofs.Try.prog 13 0 = some (9, 0) := by kernel_rfl
@[simp] theorem tyFld13_1 : eFld Go.Proofs.Try.prog 13 1 = some (12, 1) := by kernel_rfl
@[simp] theorem tyPl13 : ePl Go.Proofs.Try.prog 13 = some [(0, 1), (1, 1)] := by kernel_rfl
@[simp] theorem tyZero13 : eZero Go.Proofs.Try.prog 13 = some [.string .empty, .int .u64 0] := by kernel_rfl
@[simp] theorem tySz14 : eSz Go.Proofs.Try.prog 14 = some 2 := by kernel_rfl
@[simp] theorem tyAgg14 : eAgg Go.Proofs.Try.prog 14 = some true := by kernel_rfl
@[simp] theorem tyStr14 : eStr Go.Proofs.Try.prog 14 = false := by kernel_rfl
@[simp] theorem tyFld14_0 : eFld Go.Proofs.Try.prog 14 0 = some (9, 0) := by kernel_rfl
@[simp] theorem tyFld14_1 : eFld Go.Proofs.Try.prog 14 1 = some (12, 1) := by kernel_rfl
@[simp] theorem tyPl14 : ePl Go.Proofs.Try.prog 14 = some [(0, 1), (1, 1)] := by kernel_rfl
@[simp] theorem tyZero14 : eZero Go.Proofs.Try.prog 14 = some [.string .empty, .int .u64 0] := by kernel_rfl
@[simp] theorem tySz15 : eSz Go.Proofs.Try.prog 15 = some 1 := by kernel_rfl
@[simp] theorem tyAgg15 : eAgg Go.Proofs.Try.prog 15 = some false := by kernel_rfl
@[simp] theorem tyStr15 : eStr Go.Proofs.Try.prog 15 = false := by kernel_rfl
@[simp] theorem tyPtr15 : ePtr Go.Proofs.Try.prog 15 = true := by kernel_rfl
@[simp] theorem tyZero15 : eZero Go.Proofs.Try.prog 15 = some [.pointer none] := by kernel_rfl
@[simp] theorem tySz16 : eSz Go.Proofs.Try.prog 16 = some 1 := by kernel_rfl
@[simp] theorem tyAgg16 : eAgg Go.Proofs.Try.prog 16 = some false := by kernel_rfl
@[simp] theorem tyStr16 : eStr Go.Proofs.Try.prog 16 = false := by kernel_rfl
@[simp] theorem tyPtr16 : ePtr Go.Proofs.Try.prog 16 = false := by kernel_rfl
@[simp] theorem tyZero16 : eZero Go.Proofs.Try.prog 16 = some [.pointer none] := by kernel_rfl
@[simp] theorem tySz17 : eSz Go.Proofs.Try.prog 17 = some 1 := by kernel_rfl
@[simp] theorem tyAgg17 : eAgg Go.Proofs.Try.prog 17 = some false := by kernel_rfl
@[simp] theorem tyStr17 : eStr Go.Proofs.Try.prog 17 = false := by kernel_rfl
@[simp] theorem tyPtr17 : ePtr Go.Proofs.Try.prog 17 = true := by kernel_rfl
@[simp] theorem tyZero17 : eZero Go.Proofs.Try.prog 17 = some [.pointer none] := by kernel_rfl
@[simp] theorem tySz18 : eSz Go.Proofs.Try.prog 18 = some 1 := by kernel_rfl
@[simp] theorem tyAgg18 : eAgg Go.Proofs.Try.prog 18 = some true := by kernel_rfl
@[simp] theorem tyStr18 : eStr Go.Proofs.Try.prog 18 = false := by kernel_rfl
@[simp] theorem tyFld18_0 : eFld Go.Proofs.Try.prog 18 0 = some (17, 0) := by kernel_rfl
@[simp] theorem tyPl18 : ePl Go.Proofs.Try.prog 18 = some [(0, 1)] := by kernel_rfl
@[simp] theorem tyZero18 : eZero Go.Proofs.Try.prog 18 = some [.pointer none] := by kernel_rfl
@[simp] theorem tySz19 : eSz Go.Proofs.Try.prog 19 = some 1 := by kernel_rfl
@[simp] theorem tyAgg19 : eAgg Go.Proofs.Try.prog 19 = some true := by kernel_rfl
@[simp] theorem tyStr19 : eStr Go.Proofs.Try.prog 19 = false := by kernel_rfl
@[simp] theorem tyFld19_0 : eFld Go.Proofs.Try.prog 19 0 = some (17, 0) := by kernel_rfl
@[simp] theorem tyPl19 : ePl Go.Proofs.Try.prog 19 = some [(0, 1)] := by kernel_rfl
@[simp] theorem tyZero19 : eZero Go.Proofs.Try.prog 19 = some [.pointer none] := by kernel_rfl
@[simp] theorem tySz20 : eSz Go.Proofs.Try.prog 20 = some 1 := by kernel_rfl
@[simp] theorem tyAgg20 : eAgg Go.Proofs.Try.prog 20 = some false := by kernel_rfl
@[simp] theorem tyStr20 : eStr Go.Proofs.Try.prog 20 = false := by kernel_rfl
@[simp] theorem tyZero20 : eZero Go.Proofs.Try.prog 20 = some [.nilIface] := by kernel_rfl
@[simp] theorem tySz21 : eSz Go.Proofs.Try.prog 21 = some 1 := by kernel_rfl
@[simp] theorem tyAgg21 : eAgg Go.Proofs.Try.prog 21 = some false := by kernel_rfl
@[simp] theorem tyStr21 : eStr Go.Proofs.Try.prog 21 = false := by kernel_rfl
@[simp] theorem tyInt21 : eInt Go.Proofs.Try.prog 21 = some .i32 := by kernel_rfl
@[simp] theorem tyZero21 : eZero Go.Proofs.Try.prog 21 = some [.int .i32 0] := by kernel_rfl
@[simp] theorem tySz22 : eSz Go.Proofs.Try.prog 22 = some 1 := by kernel_rfl
@[simp] theorem tyAgg22 : eAgg Go.Proofs.Try.prog 22 = some false := by kernel_rfl
@[simp] theorem tyStr22 : eStr Go.Proofs.Try.prog 22 = false := by kernel_rfl
@[simp] theorem tyInt22 : eInt Go.Proofs.Try.prog 22 = some .i64 := by kernel_rfl
@[simp] theorem tyZero22 : eZero Go.Proofs.Try.prog 22 = some [.int .i64 0] := by kernel_rfl
@[simp] theorem tySz23 : eSz Go.Proofs.Try.prog 23 = some 1 := by kernel_rfl
@[simp] theorem tyAgg23 : eAgg Go.Proofs.Try.prog 23 = some false := by kernel_rfl
@[simp] theorem tyStr23 : eStr Go.Proofs.Try.prog 23 = false := by kernel_rfl
@[simp] theorem tySz24 : eSz Go.Proofs.Try.prog 24 = some 1 := by kernel_rfl
@[simp] theorem tyAgg24 : eAgg Go.Proofs.Try.prog 24 = some false := by kernel_rfl
@[simp] theorem tyStr24 : eStr Go.Proofs.Try.prog 24 = false := by kernel_rfl
@[simp] theorem tyZero24 : eZero Go.Proofs.Try.prog 24 = some [.nilFunc] := by kernel_rfl
@[simp] theorem tySz25 : eSz Go.Proofs.Try.prog 25 = some 1 := by kernel_rfl
@[simp] theorem tyAgg25 : eAgg Go.Proofs.Try.prog 25 = some false := by kernel_rfl
@[simp] theorem tyStr25 : eStr Go.Proofs.Try.prog 25 = false := by kernel_rfl
@[simp] theorem tyZero25 : eZero Go.Proofs.Try.prog 25 = some [.nilFunc] := by kernel_rfl
@[simp] theorem tySz26 : eSz Go.Proofs.Try.prog 26 = some 1 := by kernel_rfl
@[simp] theorem tyAgg26 : eAgg Go.Proofs.Try.prog 26 = some false := by kernel_rfl
@[simp] theorem tyStr26 : eStr Go.Proofs.Try.prog 26 = false := by kernel_rfl
@[simp] theorem tyZero26 : eZero Go.Proofs.Try.prog 26 = some [.nilFunc] := by kernel_rfl
@[simp] theorem tySz27 : eSz Go.Proofs.Try.prog 27 = some 1 := by kernel_rfl
@[simp] theorem tyAgg27 : eAgg Go.Proofs.Try.prog 27 = some false := by kernel_rfl
@[simp] theorem tyStr27 : eStr Go.Proofs.Try.prog 27 = false := by kernel_rfl
@[simp] theorem tyZero27 : eZero Go.Proofs.Try.prog 27 = some [.nilFunc] := by kernel_rfl
@[simp] theorem tySz28 : eSz Go.Proofs.Try.prog 28 = some 1 := by kernel_rfl
@[simp] theorem tyAgg28 : eAgg Go.Proofs.Try.prog 28 = some false := by kernel_rfl
@[simp] theorem tyElem28 : eElem Go.Proofs.Try.prog 28 = some (5, 1) := by kernel_rfl
@[simp] theorem tyBytes5 : eBytes Go.Proofs.Try.prog 5 = some 1 := by kernel_rfl
@[simp] theorem tyStr28 : eStr Go.Proofs.Try.prog 28 = false := by kernel_rfl
@[simp] theorem tyZero28 : eZero Go.Proofs.Try.prog 28 = some [.slice none 0 0] := by kernel_rfl
@[simp] theorem tySz29 : eSz Go.Proofs.Try.prog 29 = some 1 := by kernel_rfl
@[simp] theorem tyAgg29 : eAgg Go.Proofs.Try.prog 29 = some false := by kernel_rfl
@[simp] theorem tyElem29 : eElem Go.Proofs.Try.prog 29 = some (36, 5) := by kernel_rfl
@[simp] theorem tyBytes36 : eBytes Go.Proofs.Try.prog 36 = some 64 := by kernel_rfl
@[simp] theorem tyStr29 : eStr Go.Proofs.Try.prog 29 = false := by kernel_rfl
@[simp] theorem tyZero29 : eZero Go.Proofs.Try.prog 29 = some [.slice none 0 0] := by kernel_rfl
@[simp] theorem tySz30 : eSz Go.Proofs.Try.prog 30 = some 1 := by kernel_rfl
@[simp] theorem tyAgg30 : eAgg Go.Proofs.Try.prog 30 = some false := by kernel_rfl
@[simp] theorem tyStr30 : eStr Go.Proofs.Try.prog 30 = false := by kernel_rfl
@[simp] theorem tySz31 : eSz Go.Proofs.Try.prog 31 = some 1 := by kernel_rfl
@[simp] theorem tyAgg31 : eAgg Go.Proofs.Try.prog 31 = some false := by kernel_rfl
@[simp] theorem tyStr31 : eStr Go.Proofs.Try.prog 31 = false := by kernel_rfl
@[simp] theorem tyZero31 : eZero Go.Proofs.Try.prog 31 = some [.nilFunc] := by kernel_rfl
@[simp] theorem tySz32 : eSz Go.Proofs.Try.prog 32 = some 2 := by kernel_rfl
@[simp] theorem tyAgg32 : eAgg Go.Proofs.Try.prog 32 = some true := by kernel_rfl
@[simp] theorem tyStr32 : eStr Go.Proofs.Try.prog 32 = false := by kernel_rfl
@[simp] theorem tyFld32_0 : eFld Go.Proofs.Try.prog 32 0 = some (3, 0) := by kernel_rfl
@[simp] theorem tyFld32_1 : eFld Go.Proofs.Try.prog 32 1 = some (3, 1) := by kernel_rfl
@[simp] theorem tyPl32 : ePl Go.Proofs.Try.prog 32 = some [(0, 1), (1, 1)] := by kernel_rfl
@[simp] theorem tyZero32 : eZero Go.Proofs.Try.prog 32 = some [.int .i64 0, .int .i64 0] := by kernel_rfl
@[simp] theorem tySz33 : eSz Go.Proofs.Try.prog 33 = some 2 := by kernel_rfl
@[simp] theorem tyAgg33 : eAgg Go.Proofs.Try.prog 33 = some true := by kernel_rfl
@[simp] theorem tyStr33 : eStr Go.Proofs.Try.prog 33 = false := by kernel_rfl
@[simp] theorem tyFld33_0 : eFld Go.Proofs.Try.prog 33 0 = some (3, 0) := by kernel_rfl
@[simp] theorem tyFld33_1 : eFld Go.Proofs.Try.prog 33 1 = some (3, 1) := by kernel_rfl
@[simp] theorem tyPl33 : ePl Go.Proofs.Try.prog 33 = some [(0, 1), (1, 1)] := by kernel_rfl
@[simp] theorem tyZero33 : eZero Go.Proofs.Try.prog 33 = some [.int .i64 0, .int .i64 0] := by kernel_rfl
@[simp] theorem tySz34 : eSz Go.Proofs.Try.prog 34 = some 1 := by kernel_rfl
@[simp] theorem tyAgg34 : eAgg Go.Proofs.Try.prog 34 = some false := by kernel_rfl
@[simp] theorem tyElem34 : eElem Go.Proofs.Try.prog 34 = some (38, 5) := by kernel_rfl
@[simp] theorem tyBytes38 : eBytes Go.Proofs.Try.prog 38 = some 56 := by kernel_rfl
@[simp] theorem tyStr34 : eStr Go.Proofs.Try.prog 34 = false := by kernel_rfl
@[simp] theorem tyZero34 : eZero Go.Proofs.Try.prog 34 = some [.slice none 0 0] := by kernel_rfl
@[simp] theorem tySz35 : eSz Go.Proofs.Try.prog 35 = some 5 := by kernel_rfl
@[simp] theorem tyAgg35 : eAgg Go.Proofs.Try.prog 35 = some true := by kernel_rfl
@[simp] theorem tyStr35 : eStr Go.Proofs.Try.prog 35 = false := by kernel_rfl
@[simp] theorem tyFld35_0 : eFld Go.Proofs.Try.prog 35 0 = some (3, 0) := by kernel_rfl
@[simp] theorem tyFld35_1 : eFld Go.Proofs.Try.prog 35 1 = some (33, 1) := by kernel_rfl
@[simp] theorem tyFld35_2 : eFld Go.Proofs.Try.prog 35 2 = some (9, 3) := by kernel_rfl
@[simp] theorem tyFld35_3 : eFld Go.Proofs.Try.prog 35 3 = some (34, 4) := by kernel_rfl
@[simp] theorem tyPl35 : ePl Go.Proofs.Try.prog 35 = some [(0, 1), (1, 2), (3, 1), (4, 1)] := by kernel_rfl
@[simp] theorem tyZero35 : eZero Go.Proofs.Try.prog 35 = some [.int .i64 0, .int .i64 0, .int .i64 0, .string .empty, .slice none 0 0] := by kernel_rfl
@[simp] theorem tySz36 : eSz Go.Proofs.Try.prog 36 = some 5 := by kernel_rfl
@[simp] theorem tyAgg36 : eAgg Go.Proofs.Try.prog 36 = some true := by kernel_rfl
@[simp] theorem tyStr36 : eStr Go.Proofs.Try.prog 36 = false := by kernel_rfl
@[simp] theorem tyFld36_0 : eFld Go.Proofs.Try.prog 36 0 = some (3, 0) := by kernel_rfl
@[simp] theorem tyFld36_1 : eFld Go.Proofs.Try.prog 36 1 = some (33, 1) := by kernel_rfl
@[simp] theorem tyFld36_2 : eFld Go.Proofs.Try.prog 36 2 = some (9, 3) := by kernel_rfl
@[simp] theorem tyFld36_3 : eFld Go.Proofs.Try.prog 36 3 = some (34, 4) := by kernel_rfl
@[simp] theorem tyPl36 : ePl Go.Proofs.Try.prog 36 = some [(0, 1), (1, 2), (3, 1), (4, 1)] := by kernel_rfl
@[simp] theorem tyZero36 : eZero Go.Proofs.Try.prog 36 = some [.int .i64 0, .int .i64 0, .int .i64 0, .string .empty, .slice none 0 0] := by kernel_rfl
@[simp] theorem tySz37 : eSz Go.Proofs.Try.prog 37 = some 5 := by kernel_rfl
@[simp] theorem tyAgg37 : eAgg Go.Proofs.Try.prog 37 = some true := by kernel_rfl
@[simp] theorem tyStr37 : eStr Go.Proofs.Try.prog 37 = false := by kernel_rfl
@[simp] theorem tyFld37_0 : eFld Go.Proofs.Try.prog 37 0 = some (9, 0) := by kernel_rfl
@[simp] theorem tyFld37_1 : eFld Go.Proofs.Try.prog 37 1 = some (9, 1) := by kernel_rfl
@[simp] theorem tyFld37_2 : eFld Go.Proofs.Try.prog 37 2 = some (33, 2) := by kernel_rfl
@[simp] theorem tyFld37_3 : eFld Go.Proofs.Try.prog 37 3 = some (4, 4) := by kernel_rfl
@[simp] theorem tyPl37 : ePl Go.Proofs.Try.prog 37 = some [(0, 1), (1, 1), (2, 2), (4, 1)] := by kernel_rfl
@[simp] theorem tyZero37 : eZero Go.Proofs.Try.prog 37 = some [.string .empty, .string .empty, .int .i64 0, .int .i64 0, .bool false] := by kernel_rfl
@[simp] theorem tySz38 : eSz Go.Proofs.Try.prog 38 = some 5 := by kernel_rfl
@[simp] theorem tyAgg38 : eAgg Go.Proofs.Try.prog 38 = some true := by kernel_rfl
@[simp] theorem tyStr38 : eStr Go.Proofs.Try.prog 38 = false := by kernel_rfl
@[simp] theorem tyFld38_0 : eFld Go.Proofs.Try.prog 38 0 = some (9, 0) := by kernel_rfl
@[simp] theorem tyFld38_1 : eFld Go.Proofs.Try.prog 38 1 = some (9, 1) := by kernel_rfl
@[simp] theorem tyFld38_2 : eFld Go.Proofs.Try.prog 38 2 = some (33, 2) := by kernel_rfl
@[simp] theorem tyFld38_3 : eFld Go.Proofs.Try.prog 38 3 = some (4, 4) := by kernel_rfl
@[simp] theorem tyPl38 : ePl Go.Proofs.Try.prog 38 = some [(0, 1), (1, 1), (2, 2), (4, 1)] := by kernel_rfl
@[simp] theorem tyZero38 : eZero Go.Proofs.Try.prog 38 = some [.string .empty, .string .empty, .int .i64 0, .int .i64 0, .bool false] := by kernel_rfl
@[simp] theorem tySz39 : eSz Go.Proofs.Try.prog 39 = some 1 := by kernel_rfl
@[simp] theorem tyAgg39 : eAgg Go.Proofs.Try.prog 39 = some false := by kernel_rfl
@[simp] theorem tyStr39 : eStr Go.Proofs.Try.prog 39 = false := by kernel_rfl
@[simp] theorem tyZero39 : eZero Go.Proofs.Try.prog 39 = some [.nilFunc] := by kernel_rfl
@[simp] theorem tySz40 : eSz Go.Proofs.Try.prog 40 = some 1 := by kernel_rfl
@[simp] theorem tyAgg40 : eAgg Go.Proofs.Try.prog 40 = some false := by kernel_rfl
@[simp] theorem tyStr40 : eStr Go.Proofs.Try.prog 40 = false := by kernel_rfl
@[simp] theorem tyZero40 : eZero Go.Proofs.Try.prog 40 = some [.nilFunc] := by kernel_rfl
@[simp] theorem tySz41 : eSz Go.Proofs.Try.prog 41 = some 1 := by kernel_rfl
@[simp] theorem tyAgg41 : eAgg Go.Proofs.Try.prog 41 = some false := by kernel_rfl
@[simp] theorem tyStr41 : eStr Go.Proofs.Try.prog 41 = false := by kernel_rfl
@[simp] theorem tySz42 : eSz Go.Proofs.Try.prog 42 = some 1 := by kernel_rfl
@[simp] theorem tyAgg42 : eAgg Go.Proofs.Try.prog 42 = some false := by kernel_rfl
@[simp] theorem tyStr42 : eStr Go.Proofs.Try.prog 42 = false := by kernel_rfl
@[simp] theorem tyZero42 : eZero Go.Proofs.Try.prog 42 = some [.nilFunc] := by kernel_rfl
@[simp] theorem tySz43 : eSz Go.Proofs.Try.prog 43 = some 1 := by kernel_rfl
@[simp] theorem tyAgg43 : eAgg Go.Proofs.Try.prog 43 = some false := by kernel_rfl
@[simp] theorem tyStr43 : eStr Go.Proofs.Try.prog 43 = false := by kernel_rfl
@[simp] theorem tyZero43 : eZero Go.Proofs.Try.prog 43 = some [.nilFunc] := by kernel_rfl
@[simp] theorem tySz44 : eSz Go.Proofs.Try.prog 44 = some 1 := by kernel_rfl
@[simp] theorem tyAgg44 : eAgg Go.Proofs.Try.prog 44 = some false := by kernel_rfl
@[simp] theorem tyStr44 : eStr Go.Proofs.Try.prog 44 = false := by kernel_rfl
@[simp] theorem tyZero44 : eZero Go.Proofs.Try.prog 44 = some [.nilFunc] := by kernel_rfl
@[simp] theorem tySz45 : eSz Go.Proofs.Try.prog 45 = some 1 := by kernel_rfl
@[simp] theorem tyAgg45 : eAgg Go.Proofs.Try.prog 45 = some false := by kernel_rfl
@[simp] theorem tyStr45 : eStr Go.Proofs.Try.prog 45 = false := by kernel_rfl
@[simp] theorem tyZero45 : eZero Go.Proofs.Try.prog 45 = some [.nilFunc] := by kernel_rfl
@[simp] theorem tySz46 : eSz Go.Proofs.Try.prog 46 = some 1 := by kernel_rfl
@[simp] theorem tyAgg46 : eAgg Go.Proofs.Try.prog 46 = some false := by kernel_rfl
@[simp] theorem tyStr46 : eStr Go.Proofs.Try.prog 46 = false := by kernel_rfl
@[simp] theorem tyZero46 : eZero Go.Proofs.Try.prog 46 = some [.nilFunc] := by kernel_rfl
@[simp] theorem tySz47 : eSz Go.Proofs.Try.prog 47 = some 1 := by kernel_rfl
@[simp] theorem tyAgg47 : eAgg Go.Proofs.Try.prog 47 = some false := by kernel_rfl
@[simp] theorem tyStr47 : eStr Go.Proofs.Try.prog 47 = false := by kernel_rfl
@[simp] theorem tyZero47 : eZero Go.Proofs.Try.prog 47 = some [.nilFunc] := by kernel_rfl
@[simp] theorem tySz48 : eSz Go.Proofs.Try.prog 48 = some 1 := by kernel_rfl
@[simp] theorem tyAgg48 : eAgg Go.Proofs.Try.prog 48 = some false := by kernel_rfl
@[simp] theorem tyElem48 : eElem Go.Proofs.Try.prog 48 = some (9, 1) := by kernel_rfl
@[simp] theorem tyBytes9 : eBytes Go.Proofs.Try.prog 9 = some 16 := by kernel_rfl
@[simp] theorem tyStr48 : eStr Go.Proofs.Try.prog 48 = false := by kernel_rfl
@[simp] theorem tyZero48 : eZero Go.Proofs.Try.prog 48 = some [.slice none 0 0] := by kernel_rfl
@[simp] theorem tySz49 : eSz Go.Proofs.Try.prog 49 = some 1 := by kernel_rfl
@[simp] theorem tyAgg49 : eAgg Go.Proofs.Try.prog 49 = some false := by kernel_rfl
@[simp] theorem tyStr49 : eStr Go.Proofs.Try.prog 49 = false := by kernel_rfl
@[simp] theorem tyZero49 : eZero Go.Proofs.Try.prog 49 = some [.nilFunc] := by kernel_rfl
@[simp] theorem tySz50 : eSz Go.Proofs.Try.prog 50 = some 1 := by kernel_rfl
@[simp] theorem tyAgg50 : eAgg Go.Proofs.Try.prog 50 = some false := by kernel_rfl
@[simp] theorem tyStr50 : eStr Go.Proofs.Try.prog 50 = false := by kernel_rfl
@[simp] theorem tyZero50 : eZero Go.Proofs.Try.prog 50 = some [.nilFunc] := by kernel_rfl
@[simp] theorem tySz51 : eSz Go.Proofs.Try.prog 51 = some 1 := by kernel_rfl
@[simp] theorem tyAgg51 : eAgg Go.Proofs.Try.prog 51 = some false := by kernel_rfl
@[simp] theorem tyStr51 : eStr Go.Proofs.Try.prog 51 = false := by kernel_rfl
@[simp] theorem tyPtr51 : ePtr Go.Proofs.Try.prog 51 = true := by kernel_rfl
@[simp] theorem tyZero51 : eZero Go.Proofs.Try.prog 51 = some [.pointer none] := by kernel_rfl
@[simp] theorem tySz52 : eSz Go.Proofs.Try.prog 52 = some 2 := by kernel_rfl
@[simp] theorem tyAgg52 : eAgg Go.Proofs.Try.prog 52 = some true := by kernel_rfl
@[simp] theorem tyStr52 : eStr Go.Proofs.Try.prog 52 = false := by kernel_rfl
@[simp] theorem tyFld52_0 : eFld Go.Proofs.Try.prog 52 0 = some (51, 0) := by kernel_rfl
@[simp] theorem tyFld52_1 : eFld Go.Proofs.Try.prog 52 1 = some (28, 1) := by kernel_rfl
@[simp] theorem tyPl52 : ePl Go.Proofs.Try.prog 52 = some [(0, 1), (1, 1)] := by kernel_rfl
@[simp] theorem tyZero52 : eZero Go.Proofs.Try.prog 52 = some [.pointer none, .slice none 0 0] := by kernel_rfl
@[simp] theorem tySz53 : eSz Go.Proofs.Try.prog 53 = some 2 := by kernel_rfl
@[simp] theorem tyAgg53 : eAgg Go.Proofs.Try.prog 53 = some true := by kernel_rfl
@[simp] theorem tyStr53 : eStr Go.Proofs.Try.prog 53 = false := by kernel_rfl
@[simp] theorem tyFld53_0 : eFld Go.Proofs.Try.prog 53 0 = some (51, 0) := by kernel_rfl
@[simp] theorem tyFld53_1 : eFld Go.Proofs.Try.prog 53 1 = some (28, 1) := by kernel_rfl
@[simp] theorem tyPl53 : ePl Go.Proofs.Try.prog 53 = some [(0, 1), (1, 1)] := by kernel_rfl
@[simp] theorem tyZero53 : eZero Go.Proofs.Try.prog 53 = some [.pointer none, .slice none 0 0] := by kernel_rfl
@[simp] theorem tySz54 : eSz Go.Proofs.Try.prog 54 = some 1 := by kernel_rfl
@[simp] theorem tyAgg54 : eAgg Go.Proofs.Try.prog 54 = some false := by kernel_rfl
@[simp] theorem tyElem54 : eElem Go.Proofs.Try.prog 54 = some (56, 2) := by kernel_rfl
@[simp] theorem tyBytes56 : eBytes Go.Proofs.Try.prog 56 = some 32 := by kernel_rfl
@[simp] theorem tyStr54 : eStr Go.Proofs.Try.prog 54 = false := by kernel_rfl
@[simp] theorem tyZero54 : eZero Go.Proofs.Try.prog 54 = some [.slice none 0 0] := by kernel_rfl
@[simp] theorem tySz55 : eSz Go.Proofs.Try.prog 55 = some 1 := by kernel_rfl
@[simp] theorem tyAgg55 : eAgg Go.Proofs.Try.prog 55 = some false := by kernel_rfl
@[simp] theorem tyStr55 : eStr Go.Proofs.Try.prog 55 = false := by kernel_rfl
@[simp] theorem tyZero55 : eZero Go.Proofs.Try.prog 55 = some [.nilFunc] := by kernel_rfl
@[simp] theorem tySz56 : eSz Go.Proofs.Try.prog 56 = some 2 := by kernel_rfl
@[simp] theorem tyAgg56 : eAgg Go.Proofs.Try.prog 56 = some true := by kernel_rfl
@[simp] theorem tyStr56 : eStr Go.Proofs.Try.prog 56 = false := by kernel_rfl
@[simp] theorem tyArr56 : eArr Go.Proofs.Try.prog 56 = some (9, 2, 1) := by kernel_rfl
@[simp] theorem tyPl56 : ePl Go.Proofs.Try.prog 56 = some [(0, 1), (1, 1)] := by kernel_rfl
@[simp] theorem tyZero56 : eZero Go.Proofs.Try.prog 56 = some [.string .empty, .string .empty] := by kernel_rfl
@[simp] theorem tySz57 : eSz Go.Proofs.Try.prog 57 = some 1 := by kernel_rfl
@[simp] theorem tyAgg57 : eAgg Go.Proofs.Try.prog 57 = some false := by kernel_rfl
@[simp] theorem tyStr57 : eStr Go.Proofs.Try.prog 57 = false := by kernel_rfl
@[simp] theorem tyZero57 : eZero Go.Proofs.Try.prog 57 = some [.nilIface] := by kernel_rfl
@[simp] theorem tySz58 : eSz Go.Proofs.Try.prog 58 = some 1 := by kernel_rfl
@[simp] theorem tyAgg58 : eAgg Go.Proofs.Try.prog 58 = some false := by kernel_rfl
@[simp] theorem tyStr58 : eStr Go.Proofs.Try.prog 58 = false := by kernel_rfl
@[simp] theorem tyZero58 : eZero Go.Proofs.Try.prog 58 = some [.nilIface] := by kernel_rfl
@[simp] theorem tySz59 : eSz Go.Proofs.Try.prog 59 = some 1 := by kernel_rfl
@[simp] theorem tyAgg59 : eAgg Go.Proofs.Try.prog 59 = some false := by kernel_rfl
@[simp] theorem tyStr59 : eStr Go.Proofs.Try.prog 59 = false := by kernel_rfl
@[simp] theorem tySz60 : eSz Go.Proofs.Try.prog 60 = some 1 := by kernel_rfl
@[simp] theorem tyAgg60 : eAgg Go.Proofs.Try.prog 60 = some false := by kernel_rfl
@[simp] theorem tyStr60 : eStr Go.Proofs.Try.prog 60 = false := by kernel_rfl
@[simp] theorem tyZero60 : eZero Go.Proofs.Try.prog 60 = some [.nilFunc] := by kernel_rfl
@[simp] theorem tySz61 : eSz Go.Proofs.Try.prog 61 = some 1 := by kernel_rfl
@[simp] theorem tyAgg61 : eAgg Go.Proofs.Try.prog 61 = some false := by kernel_rfl
@[simp] theorem tyStr61 : eStr Go.Proofs.Try.prog 61 = false := by kernel_rfl
@[simp] theorem tyZero61 : eZero Go.Proofs.Try.prog 61 = some [.nilFunc] := by kernel_rfl
@[simp] theorem tySz62 : eSz Go.Proofs.Try.prog 62 = some 1 := by kernel_rfl
@[simp] theorem tyAgg62 : eAgg Go.Proofs.Try.prog 62 = some false := by kernel_rfl
@[simp] theorem tyStr62 : eStr Go.Proofs.Try.prog 62 = false := by kernel_rfl
@[simp] theorem tyZero62 : eZero Go.Proofs.Try.prog 62 = some [.nilFunc] := by kernel_rfl
@[simp] theorem tySz63 : eSz Go.Proofs.Try.prog 63 = some 1 := by kernel_rfl
@[simp] theorem tyAgg63 : eAgg Go.Proofs.Try.prog 63 = some false := by kernel_rfl
@[simp] theorem tyStr63 : eStr Go.Proofs.Try.prog 63 = false := by kernel_rfl
@[simp] theorem tyZero63 : eZero Go.Proofs.Try.prog 63 = some [.nilFunc] := by kernel_rfl
@[simp] theorem tySz64 : eSz Go.Proofs.Try.prog 64 = some 1 := by kernel_rfl
@[simp] theorem tyAgg64 : eAgg Go.Proofs.Try.prog 64 = some false := by kernel_rfl
@[simp] theorem tyStr64 : eStr Go.Proofs.Try.prog 64 = false := by kernel_rfl
@[simp] theorem tyZero64 : eZero Go.Proofs.Try.prog 64 = some [.nilFunc] := by kernel_rfl
@[simp] theorem tySz65 : eSz Go.Proofs.Try.prog 65 = some 256 := by kernel_rfl
@[simp] theorem tyAgg65 : eAgg Go.Proofs.Try.prog 65 = some true := by kernel_rfl
@[simp] theorem tyStr65 : eStr Go.Proofs.Try.prog 65 = false := by kernel_rfl
@[simp] theorem tyArr65 : eArr Go.Proofs.Try.prog 65 = some (4, 256, 1) := by kernel_rfl
@[simp] theorem tySz66 : eSz Go.Proofs.Try.prog 66 = some 256 := by kernel_rfl
@[simp] theorem tyAgg66 : eAgg Go.Proofs.Try.prog 66 = some true := by kernel_rfl
@[simp] theorem tyStr66 : eStr Go.Proofs.Try.prog 66 = false := by kernel_rfl
@[simp] theorem tyArr66 : eArr Go.Proofs.Try.prog 66 = some (4, 256, 1) := by kernel_rfl
@[simp] theorem tySz67 : eSz Go.Proofs.Try.prog 67 = some 1 := by kernel_rfl
@[simp] theorem tyAgg67 : eAgg Go.Proofs.Try.prog 67 = some false := by kernel_rfl
@[simp] theorem tyStr67 : eStr Go.Proofs.Try.prog 67 = false := by kernel_rfl
@[simp] theorem tySz68 : eSz Go.Proofs.Try.prog 68 = some 1 := by kernel_rfl
@[simp] theorem tyAgg68 : eAgg Go.Proofs.Try.prog 68 = some false := by kernel_rfl
@[simp] theorem tyStr68 : eStr Go.Proofs.Try.prog 68 = false := by kernel_rfl
@[simp] theorem tyZero68 : eZero Go.Proofs.Try.prog 68 = some [.nilFunc] := by kernel_rfl
@[simp] theorem tySz69 : eSz Go.Proofs.Try.prog 69 = some 1 := by kernel_rfl
@[simp] theorem tyAgg69 : eAgg Go.Proofs.Try.prog 69 = some false := by kernel_rfl
@[simp] theorem tyStr69 : eStr Go.Proofs.Try.prog 69 = false := by kernel_rfl
@[simp] theorem tyZero69 : eZero Go.Proofs.Try.prog 69 = some [.nilFunc] := by kernel_rfl
@[simp] theorem tySz70 : eSz Go.Proofs.Try.prog 70 = some 1 := by kernel_rfl
@[simp] theorem tyAgg70 : eAgg Go.Proofs.Try.prog 70 = some false := by kernel_rfl
@[simp] theorem tyStr70 : eStr Go.Proofs.Try.prog 70 = false := by kernel_rfl
@[simp] theorem tySz71 : eSz Go.Proofs.Try.prog 71 = some 1 := by kernel_rfl
@[simp] theorem tyAgg71 : eAgg Go.Proofs.Try.prog 71 = some false := by kernel_rfl
@[simp] theorem tyStr71 : eStr Go.Proofs.Try.prog 71 = false := by kernel_rfl
@[simp] theorem tyZero71 : eZero Go.Proofs.Try.prog 71 = some [.nilFunc] := by kernel_rfl
@[simp] theorem tySz72 : eSz Go.Proofs.Try.prog 72 = some 1 := by kernel_rfl
@[simp] theorem tyAgg72 : eAgg Go.Proofs.Try.prog 72 = some false := by kernel_rfl
@[simp] theorem tyStr72 : eStr Go.Proofs.Try.prog 72 = false := by kernel_rfl
@[simp] theorem tyZero72 : eZero Go.Proofs.Try.prog 72 = some [.nilFunc] := by kernel_rfl
@[simp] theorem tySz73 : eSz Go.Proofs.Try.prog 73 = some 1 := by kernel_rfl
@[simp] theorem tyAgg73 : eAgg Go.Proofs.Try.prog 73 = some false := by kernel_rfl
@[simp] theorem tyStr73 : eStr Go.Proofs.Try.prog 73 = false := by kernel_rfl
@[simp] theorem tyZero73 : eZero Go.Proofs.Try.prog 73 = some [.nilFunc] := by kernel_rfl
@[simp] theorem tySz74 : eSz Go.Proofs.Try.prog 74 = some 1 := by kernel_rfl
@[simp] theorem tyAgg74 : eAgg Go.Proofs.Try.prog 74 = some false := by kernel_rfl
@[simp] theorem tyStr74 : eStr Go.Proofs.Try.prog 74 = false := by kernel_rfl
@[simp] theorem tyZero74 : eZero Go.Proofs.Try.prog 74 = some [.nilFunc] := by kernel_rfl
@[simp] theorem tySz75 : eSz Go.Proofs.Try.prog 75 = some 1 := by kernel_rfl
@[simp] theorem tyAgg75 : eAgg Go.Proofs.Try.prog 75 = some false := by kernel_rfl
@[simp] theorem tyStr75 : eStr Go.Proofs.Try.prog 75 = false := by kernel_rfl
@[simp] theorem tyZero75 : eZero Go.Proofs.Try.prog 75 = some [.nilFunc] := by kernel_rfl
@[simp] theorem tySz76 : eSz Go.Proofs.Try.prog 76 = some 1 := by kernel_rfl
@[simp] theorem tyAgg76 : eAgg Go.Proofs.Try.prog 76 = some false := by kernel_rfl
@[simp] theorem tyStr76 : eStr Go.Proofs.Try.prog 76 = false := by kernel_rfl
@[simp] theorem tyZero76 : eZero Go.Proofs.Try.prog 76 = some [.nilFunc] := by kernel_rfl
@[simp] theorem tySz77 : eSz Go.Proofs.Try.prog 77 = some 1 := by kernel_rfl
@[simp] theorem tyAgg77 : eAgg Go.Proofs.Try.prog 77 = some false := by kernel_rfl
@[simp] theorem tyStr77 : eStr Go.Proofs.Try.prog 77 = false := by kernel_rfl
@[simp] theorem tyZero77 : eZero Go.Proofs.Try.prog 77 = some [.nilFunc] := by kernel_rfl
@[simp] theorem tySz78 : eSz Go.Proofs.Try.prog 78 = some 1 := by kernel_rfl
@[simp] theorem tyAgg78 : eAgg Go.Proofs.Try.prog 78 = some false := by kernel_rfl
@[simp] theorem tyStr78 : eStr Go.Proofs.Try.prog 78 = false := by kernel_rfl
@[simp] theorem tyPtr78 : ePtr Go.Proofs.Try.prog 78 = true := by kernel_rfl
@[simp] theorem tyZero78 : eZero Go.Proofs.Try.prog 78 = some [.pointer none] := by kernel_rfl
@[simp] theorem tySz79 : eSz Go.Proofs.Try.prog 79 = some 1 := by kernel_rfl
@[simp] theorem tyAgg79 : eAgg Go.Proofs.Try.prog 79 = some false := by kernel_rfl
@[simp] theorem tyStr79 : eStr Go.Proofs.Try.prog 79 = false := by kernel_rfl
@[simp] theorem tyZero79 : eZero Go.Proofs.Try.prog 79 = some [.nilFunc] := by kernel_rfl
@[simp] theorem tySz80 : eSz Go.Proofs.Try.prog 80 = some 1 := by kernel_rfl
@[simp] theorem tyAgg80 : eAgg Go.Proofs.Try.prog 80 = some false := by kernel_rfl
@[simp] theorem tyStr80 : eStr Go.Proofs.Try.prog 80 = false := by kernel_rfl
@[simp] theorem tyZero80 : eZero Go.Proofs.Try.prog 80 = some [.nilFunc] := by kernel_rfl
@[simp] theorem tySz81 : eSz Go.Proofs.Try.prog 81 = some 1 := by kernel_rfl
@[simp] theorem tyAgg81 : eAgg Go.Proofs.Try.prog 81 = some false := by kernel_rfl
@[simp] theorem tyStr81 : eStr Go.Proofs.Try.prog 81 = false := by kernel_rfl
@[simp] theorem tyZero81 : eZero Go.Proofs.Try.prog 81 = some [.nilFunc] := by kernel_rfl
@[simp] theorem tySz82 : eSz Go.Proofs.Try.prog 82 = some 1 := by kernel_rfl
@[simp] theorem tyAgg82 : eAgg Go.Proofs.Try.prog 82 = some false := by kernel_rfl
@[simp] theorem tyStr82 : eStr Go.Proofs.Try.prog 82 = false := by kernel_rfl
@[simp] theorem tyInt82 : eInt Go.Proofs.Try.prog 82 = some .u64 := by kernel_rfl
@[simp] theorem tyZero82 : eZero Go.Proofs.Try.prog 82 = some [.int .u64 0] := by kernel_rfl
@[simp] theorem tySz83 : eSz Go.Proofs.Try.prog 83 = some 1 := by kernel_rfl
@[simp] theorem tyAgg83 : eAgg Go.Proofs.Try.prog 83 = some false := by kernel_rfl
@[simp] theorem tyStr83 : eStr Go.Proofs.Try.prog 83 = false := by kernel_rfl
@[simp] theorem tyPtr83 : ePtr Go.Proofs.Try.prog 83 = true := by kernel_rfl
@[simp] theorem tyZero83 : eZero Go.Proofs.Try.prog 83 = some [.pointer none] := by kernel_rfl
@[simp] theorem tySz84 : eSz Go.Proofs.Try.prog 84 = some 1 := by kernel_rfl
@[simp] theorem tyAgg84 : eAgg Go.Proofs.Try.prog 84 = some false := by kernel_rfl
@[simp] theorem tyStr84 : eStr Go.Proofs.Try.prog 84 = false := by kernel_rfl
@[simp] theorem tyPtr84 : ePtr Go.Proofs.Try.prog 84 = true := by kernel_rfl
@[simp] theorem tyZero84 : eZero Go.Proofs.Try.prog 84 = some [.pointer none] := by kernel_rfl
@[simp] theorem tySz85 : eSz Go.Proofs.Try.prog 85 = some 2 := by kernel_rfl
@[simp] theorem tyAgg85 : eAgg Go.Proofs.Try.prog 85 = some true := by kernel_rfl
@[simp] theorem tyStr85 : eStr Go.Proofs.Try.prog 85 = false := by kernel_rfl
@[simp] theorem tyFld85_0 : eFld Go.Proofs.Try.prog 85 0 = some (9, 0) := by kernel_rfl
@[simp] theorem tyFld85_1 : eFld Go.Proofs.Try.prog 85 1 = some (3, 1) := by kernel_rfl
@[simp] theorem tyPl85 : ePl Go.Proofs.Try.prog 85 = some [(0, 1), (1, 1)] := by kernel_rfl
@[simp] theorem tyZero85 : eZero Go.Proofs.Try.prog 85 = some [.string .empty, .int .i64 0] := by kernel_rfl
@[simp] theorem tySz86 : eSz Go.Proofs.Try.prog 86 = some 2 := by kernel_rfl
@[simp] theorem tyAgg86 : eAgg Go.Proofs.Try.prog 86 = some true := by kernel_rfl
@[simp] theorem tyStr86 : eStr Go.Proofs.Try.prog 86 = false := by kernel_rfl
@[simp] theorem tyFld86_0 : eFld Go.Proofs.Try.prog 86 0 = some (9, 0) := by kernel_rfl
@[simp] theorem tyFld86_1 : eFld Go.Proofs.Try.prog 86 1 = some (3, 1) := by kernel_rfl
@[simp] theorem tyPl86 : ePl Go.Proofs.Try.prog 86 = some [(0, 1), (1, 1)] := by kernel_rfl
@[simp] theorem tyZero86 : eZero Go.Proofs.Try.prog 86 = some [.string .empty, .int .i64 0] := by kernel_rfl
@[simp] theorem tySz87 : eSz Go.Proofs.Try.prog 87 = some 1 := by kernel_rfl
@[simp] theorem tyAgg87 : eAgg Go.Proofs.Try.prog 87 = some false := by kernel_rfl
@[simp] theorem tyStr87 : eStr Go.Proofs.Try.prog 87 = false := by kernel_rfl
@[simp] theorem tyZero87 : eZero Go.Proofs.Try.prog 87 = some [.nilFunc] := by kernel_rfl
@[simp] theorem tySz88 : eSz Go.Proofs.Try.prog 88 = some 1 := by kernel_rfl
@[simp] theorem tyAgg88 : eAgg Go.Proofs.Try.prog 88 = some false := by kernel_rfl
@[simp] theorem tyStr88 : eStr Go.Proofs.Try.prog 88 = false := by kernel_rfl
@[simp] theorem tySz89 : eSz Go.Proofs.Try.prog 89 = some 1 := by kernel_rfl
@[simp] theorem tyAgg89 : eAgg Go.Proofs.Try.prog 89 = some false := by kernel_rfl
@[simp] theorem tyStr89 : eStr Go.Proofs.Try.prog 89 = false := by kernel_rfl
@[simp] theorem tyZero89 : eZero Go.Proofs.Try.prog 89 = some [.nilFunc] := by kernel_rfl
@[simp] theorem tySz90 : eSz Go.Proofs.Try.prog 90 = some 1 := by kernel_rfl
@[simp] theorem tyAgg90 : eAgg Go.Proofs.Try.prog 90 = some false := by kernel_rfl
@[simp] theorem tyStr90 : eStr Go.Proofs.Try.prog 90 = false := by kernel_rfl
@[simp] theorem tyZero90 : eZero Go.Proofs.Try.prog 90 = some [.nilFunc] := by kernel_rfl
@[simp] theorem tySz91 : eSz Go.Proofs.Try.prog 91 = some 1 := by kernel_rfl
@[simp] theorem tyAgg91 : eAgg Go.Proofs.Try.prog 91 = some false := by kernel_rfl
@[simp] theorem tyStr91 : eStr Go.Proofs.Try.prog 91 = false := by kernel_rfl
@[simp] theorem tyZero91 : eZero Go.Proofs.Try.prog 91 = some [.nilFunc] := by kernel_rfl
@[simp] theorem tySz92 : eSz Go.Proofs.Try.prog 92 = some 1 := by kernel_rfl
@[simp] theorem tyAgg92 : eAgg Go.Proofs.Try.prog 92 = some false := by kernel_rfl
@[simp] theorem tyStr92 : eStr Go.Proofs.Try.prog 92 = false := by kernel_rfl
@[simp] theorem tyZero92 : eZero Go.Proofs.Try.prog 92 = some [.nilFunc] := by kernel_rfl
@[simp] theorem tySz93 : eSz Go.Proofs.Try.prog 93 = some 1 := by kernel_rfl
@[simp] theorem tyAgg93 : eAgg Go.Proofs.Try.prog 93 = some false := by kernel_rfl
@[simp] theorem tyStr93 : eStr Go.Proofs.Try.prog 93 = false := by kernel_rfl
@[simp] theorem tyZero93 : eZero Go.Proofs.Try.prog 93 = some [.nilFunc] := by kernel_rfl
@[simp] theorem tySz94 : eSz Go.Proofs.Try.prog 94 = some 1 := by kernel_rfl
@[simp] theorem tyAgg94 : eAgg Go.Proofs.Try.prog 94 = some false := by kernel_rfl
@[simp] theorem tyStr94 : eStr Go.Proofs.Try.prog 94 = false := by kernel_rfl
@[simp] theorem tyZero94 : eZero Go.Proofs.Try.prog 94 = some [.nilFunc] := by kernel_rfl
@[simp] theorem tySz95 : eSz Go.Proofs.Try.prog 95 = some 1 := by kernel_rfl
@[simp] theorem tyAgg95 : eAgg Go.Proofs.Try.prog 95 = some false := by kernel_rfl
@[simp] theorem tyStr95 : eStr Go.Proofs.Try.prog 95 = false := by kernel_rfl
@[simp] theorem tyZero95 : eZero Go.Proofs.Try.prog 95 = some [.nilFunc] := by kernel_rfl
@[simp] theorem tySz96 : eSz Go.Proofs.Try.prog 96 = some 1 := by kernel_rfl
@[simp] theorem tyAgg96 : eAgg Go.Proofs.Try.prog 96 = some false := by kernel_rfl
@[simp] theorem tyStr96 : eStr Go.Proofs.Try.prog 96 = false := by kernel_rfl
@[simp] theorem tyZero96 : eZero Go.Proofs.Try.prog 96 = some [.nilFunc] := by kernel_rfl
@[simp] theorem tySz97 : eSz Go.Proofs.Try.prog 97 = some 1 := by kernel_rfl
@[simp] theorem tyAgg97 : eAgg Go.Proofs.Try.prog 97 = some false := by kernel_rfl
@[simp] theorem tyStr97 : eStr Go.Proofs.Try.prog 97 = false := by kernel_rfl
@[simp] theorem tyZero97 : eZero Go.Proofs.Try.prog 97 = some [.pointer none] := by kernel_rfl
@[simp] theorem tySz98 : eSz Go.Proofs.Try.prog 98 = some 1 := by kernel_rfl
@[simp] theorem tyAgg98 : eAgg Go.Proofs.Try.prog 98 = some false := by kernel_rfl
@[simp] theorem tyStr98 : eStr Go.Proofs.Try.prog 98 = false := by kernel_rfl
@[simp] theorem tyZero98 : eZero Go.Proofs.Try.prog 98 = some [.nilFunc] := by kernel_rfl
@[simp] theorem tySz99 : eSz Go.Proofs.Try.prog 99 = some 1 := by kernel_rfl
@[simp] theorem tyAgg99 : eAgg Go.Proofs.Try.prog 99 = some false := by kernel_rfl
@[simp] theorem tyStr99 : eStr Go.Proofs.Try.prog 99 = false := by kernel_rfl
@[simp] theorem tySz100 : eSz Go.Proofs.Try.prog 100 = some 1 := by kernel_rfl
@[simp] theorem tyAgg100 : eAgg Go.Proofs.Try.prog 100 = some false := by kernel_rfl
@[simp] theorem tyStr100 : eStr Go.Proofs.Try.prog 100 = false := by kernel_rfl
@[simp] theorem tyZero100 : eZero Go.Proofs.Try.prog 100 = some [.nilFunc] := by kernel_rfl
@[simp] theorem tySz101 : eSz Go.Proofs.Try.prog 101 = some 1 := by kernel_rfl
@[simp] theorem tyAgg101 : eAgg Go.Proofs.Try.prog 101 = some false := by kernel_rfl
@[simp] theorem tyStr101 : eStr Go.Proofs.Try.prog 101 = false := by kernel_rfl
@[simp] theorem tySz102 : eSz Go.Proofs.Try.prog 102 = some 1 := by kernel_rfl
@[simp] theorem tyAgg102 : eAgg Go.Proofs.Try.prog 102 = some false := by kernel_rfl
@[simp] theorem tyStr102 : eStr Go.Proofs.Try.prog 102 = false := by kernel_rfl
@[simp] theorem tyZero102 : eZero Go.Proofs.Try.prog 102 = some [.nilFunc] := by kernel_rfl
@[simp] theorem tySz103 : eSz Go.Proofs.Try.prog 103 = some 1 := by kernel_rfl
@[simp] theorem tyAgg103 : eAgg Go.Proofs.Try.prog 103 = some false := by kernel_rfl
@[simp] theorem tyStr103 : eStr Go.Proofs.Try.prog 103 = false := by kernel_rfl
@[simp] theorem tyZero103 : eZero Go.Proofs.Try.prog 103 = some [.nilFunc] := by kernel_rfl
@[simp] theorem tySz104 : eSz Go.Proofs.Try.prog 104 = some 1 := by kernel_rfl
@[simp] theorem tyAgg104 : eAgg Go.Proofs.Try.prog 104 = some false := by kernel_rfl
@[simp] theorem tyStr104 : eStr Go.Proofs.Try.prog 104 = false := by kernel_rfl
@[simp] theorem tyZero104 : eZero Go.Proofs.Try.prog 104 = some [.nilFunc] := by kernel_rfl
@[simp] theorem tySz105 : eSz Go.Proofs.Try.prog 105 = some 1 := by kernel_rfl
@[simp] theorem tyAgg105 : eAgg Go.Proofs.Try.prog 105 = some false := by kernel_rfl
@[simp] theorem tyStr105 : eStr Go.Proofs.Try.prog 105 = false := by kernel_rfl
@[simp] theorem tyZero105 : eZero Go.Proofs.Try.prog 105 = some [.nilFunc] := by kernel_rfl
@[simp] theorem tySz106 : eSz Go.Proofs.Try.prog 106 = some 1 := by kernel_rfl
@[simp] theorem tyAgg106 : eAgg Go.Proofs.Try.prog 106 = some false := by kernel_rfl
@[simp] theorem tyStr106 : eStr Go.Proofs.Try.prog 106 = false := by kernel_rfl
@[simp] theorem tyZero106 : eZero Go.Proofs.Try.prog 106 = some [.nilFunc] := by kernel_rfl
@[simp] theorem tySz107 : eSz Go.Proofs.Try.prog 107 = some 1 := by kernel_rfl
@[simp] theorem tyAgg107 : eAgg Go.Proofs.Try.prog 107 = some false := by kernel_rfl
@[simp] theorem tyStr107 : eStr Go.Proofs.Try.prog 107 = false := by kernel_rfl
@[simp] theorem tySz108 : eSz Go.Proofs.Try.prog 108 = some 1 := by kernel_rfl
@[simp] theorem tyAgg108 : eAgg Go.Proofs.Try.prog 108 = some false := by kernel_rfl
@[simp] theorem tyStr108 : eStr Go.Proofs.Try.prog 108 = false := by kernel_rfl
@[simp] theorem tyZero108 : eZero Go.Proofs.Try.prog 108 = some [.nilFunc] := by kernel_rfl
@[simp] theorem tySz109 : eSz Go.Proofs.Try.prog 109 = some 1 := by kernel_rfl
@[simp] theorem tyAgg109 : eAgg Go.Proofs.Try.prog 109 = some false := by kernel_rfl
@[simp] theorem tyStr109 : eStr Go.Proofs.Try.prog 109 = false := by kernel_rfl
@[simp] theorem tySz110 : eSz Go.Proofs.Try.prog 110 = some 1 := by kernel_rfl
@[simp] theorem tyAgg110 : eAgg Go.Proofs.Try.prog 110 = some false := by kernel_rfl
@[simp] theorem tyStr110 : eStr Go.Proofs.Try.prog 110 = false := by kernel_rfl
@[simp] theorem tyZero110 : eZero Go.Proofs.Try.prog 110 = some [.nilFunc] := by kernel_rfl
@[simp] theorem tySz111 : eSz Go.Proofs.Try.prog 111 = some 1 := by kernel_rfl
@[simp] theorem tyAgg111 : eAgg Go.Proofs.Try.prog 111 = some false := by kernel_rfl
@[simp] theorem tyStr111 : eStr Go.Proofs.Try.prog 111 = false := by kernel_rfl
@[simp] theorem tySz112 : eSz Go.Proofs.Try.prog 112 = some 1 := by kernel_rfl
@[simp] theorem tyAgg112 : eAgg Go.Proofs.Try.prog 112 = some false := by kernel_rfl
@[simp] theorem tyStr112 : eStr Go.Proofs.Try.prog 112 = false := by kernel_rfl
@[simp] theorem tyZero112 : eZero Go.Proofs.Try.prog 112 = some [.nilFunc] := by kernel_rfl
@[simp] theorem tySz113 : eSz Go.Proofs.Try.prog 113 = some 1 := by kernel_rfl
@[simp] theorem tyAgg113 : eAgg Go.Proofs.Try.prog 113 = some false := by kernel_rfl
@[simp] theorem tyStr113 : eStr Go.Proofs.Try.prog 113 = false := by kernel_rfl
@[simp] theorem tySz114 : eSz Go.Proofs.Try.prog 114 = some 1 := by kernel_rfl
@[simp] theorem tyAgg114 : eAgg Go.Proofs.Try.prog 114 = some false := by kernel_rfl
@[simp] theorem tyStr114 : eStr Go.Proofs.Try.prog 114 = false := by kernel_rfl
@[simp] theorem tyZero114 : eZero Go.Proofs.Try.prog 114 = some [.nilFunc] := by kernel_rfl
@[simp] theorem tySz115 : eSz Go.Proofs.Try.prog 115 = some 1 := by kernel_rfl
@[simp] theorem tyAgg115 : eAgg Go.Proofs.Try.prog 115 = some false := by kernel_rfl
@[simp] theorem tyStr115 : eStr Go.Proofs.Try.prog 115 = false := by kernel_rfl
@[simp] theorem tyInt115 : eInt Go.Proofs.Try.prog 115 = some .u32 := by kernel_rfl
@[simp] theorem tyZero115 : eZero Go.Proofs.Try.prog 115 = some [.int .u32 0] := by kernel_rfl
@[simp] theorem tySz116 : eSz Go.Proofs.Try.prog 116 = some 1 := by kernel_rfl
@[simp] theorem tyAgg116 : eAgg Go.Proofs.Try.prog 116 = some false := by kernel_rfl
@[simp] theorem tyStr116 : eStr Go.Proofs.Try.prog 116 = false := by kernel_rfl
@[simp] theorem tySz117 : eSz Go.Proofs.Try.prog 117 = some 1 := by kernel_rfl
@[simp] theorem tyAgg117 : eAgg Go.Proofs.Try.prog 117 = some false := by kernel_rfl
@[simp] theorem tyStr117 : eStr Go.Proofs.Try.prog 117 = false := by kernel_rfl
@[simp] theorem tyZero117 : eZero Go.Proofs.Try.prog 117 = some [.nilFunc] := by kernel_rfl
@[simp] theorem tySz118 : eSz Go.Proofs.Try.prog 118 = some 4 := by kernel_rfl
@[simp] theorem tyAgg118 : eAgg Go.Proofs.Try.prog 118 = some true := by kernel_rfl
@[simp] theorem tyStr118 : eStr Go.Proofs.Try.prog 118 = false := by kernel_rfl
@[simp] theorem tyFld118_0 : eFld Go.Proofs.Try.prog 118 0 = some (17, 0) := by kernel_rfl
@[simp] theorem tyFld118_1 : eFld Go.Proofs.Try.prog 118 1 = some (17, 1) := by kernel_rfl
@[simp] theorem tyFld118_2 : eFld Go.Proofs.Try.prog 118 2 = some (17, 2) := by kernel_rfl
@[simp] theorem tyFld118_3 : eFld Go.Proofs.Try.prog 118 3 = some (9, 3) := by kernel_rfl
@[simp] theorem tyPl118 : ePl Go.Proofs.Try.prog 118 = some [(0, 1), (1, 1), (2, 1), (3, 1)] := by kernel_rfl
@[simp] theorem tyZero118 : eZero Go.Proofs.Try.prog 118 = some [.pointer none, .pointer none, .pointer none, .string .empty] := by kernel_rfl
@[simp] theorem tySz119 : eSz Go.Proofs.Try.prog 119 = some 4 := by kernel_rfl
@[simp] theorem tyAgg119 : eAgg Go.Proofs.Try.prog 119 = some true := by kernel_rfl
@[simp] theorem tyStr119 : eStr Go.Proofs.Try.prog 119 = false := by kernel_rfl
@[simp] theorem tyFld119_0 : eFld Go.Proofs.Try.prog 119 0 = some (17, 0) := by kernel_rfl
@[simp] theorem tyFld119_1 : eFld Go.Proofs.Try.prog 119 1 = some (17, 1) := by kernel_rfl
@[simp] theorem tyFld119_2 : eFld Go.Proofs.Try.prog 119 2 = some (17, 2) := by kernel_rfl
@[simp] theorem tyFld119_3 : eFld Go.Proofs.Try.prog 119 3 = some (9, 3) := by kernel_rfl
@[simp] theorem tyPl119 : ePl Go.Proofs.Try.prog 119 = some [(0, 1), (1, 1), (2, 1), (3, 1)] := by kernel_rfl
@[simp] theorem tyZero119 : eZero Go.Proofs.Try.prog 119 = some [.pointer none, .pointer none, .pointer none, .string .empty] := by kernel_rfl
@[simp] theorem tySz120 : eSz Go.Proofs.Try.prog 120 = some 0 := by kernel_rfl
@[simp] theorem tyAgg120 : eAgg Go.Proofs.Try.prog 120 = some true := by kernel_rfl
@[simp] theorem tyStr120 : eStr Go.Proofs.Try.prog 120 = false := by kernel_rfl
@[simp] theorem tyArr120 : eArr Go.Proofs.Try.prog 120 = some (16, 0, 1) := by kernel_rfl
@[simp] theorem tyPl120 : ePl Go.Proofs.Try.prog 120 = some [] := by kernel_rfl
@[simp] theorem tyZero120 : eZero Go.Proofs.Try.prog 120 = some [] := by kernel_rfl
@[simp] theorem tySz121 : eSz Go.Proofs.Try.prog 121 = some 0 := by kernel_rfl
@[simp] theorem tyAgg121 : eAgg Go.Proofs.Try.prog 121 = some true := by kernel_rfl
@[simp] theorem tyStr121 : eStr Go.Proofs.Try.prog 121 = false := by kernel_rfl
@[simp] theorem tyPl121 : ePl Go.Proofs.Try.prog 121 = some [(0, 0)] := by kernel_rfl
@[simp] theorem tyZero121 : eZero Go.Proofs.Try.prog 121 = some [] := by kernel_rfl
@[simp] theorem tySz122 : eSz Go.Proofs.Try.prog 122 = some 0 := by kernel_rfl
@[simp] theorem tyAgg122 : eAgg Go.Proofs.Try.prog 122 = some true := by kernel_rfl
@[simp] theorem tyStr122 : eStr Go.Proofs.Try.prog 122 = false := by kernel_rfl
@[simp] theorem tyPl122 : ePl Go.Proofs.Try.prog 122 = some [(0, 0)] := by kernel_rfl
@[simp] theorem tyZero122 : eZero Go.Proofs.Try.prog 122 = some [] := by kernel_rfl
@[simp] theorem tySz123 : eSz Go.Proofs.Try.prog 123 = some 1 := by kernel_rfl
@[simp] theorem tyAgg123 : eAgg Go.Proofs.Try.prog 123 = some false := by kernel_rfl
@[simp] theorem tyStr123 : eStr Go.Proofs.Try.prog 123 = false := by kernel_rfl
@[simp] theorem tyZero123 : eZero Go.Proofs.Try.prog 123 = some [.nilFunc] := by kernel_rfl
@[simp] theorem tySz124 : eSz Go.Proofs.Try.prog 124 = some 1 := by kernel_rfl
@[simp] theorem tyAgg124 : eAgg Go.Proofs.Try.prog 124 = some false := by kernel_rfl
@[simp] theorem tyStr124 : eStr Go.Proofs.Try.prog 124 = false := by kernel_rfl
@[simp] theorem tyInt124 : eInt Go.Proofs.Try.prog 124 = some .u8 := by kernel_rfl
@[simp] theorem tyZero124 : eZero Go.Proofs.Try.prog 124 = some [.int .u8 0] := by kernel_rfl
@[simp] theorem tySz125 : eSz Go.Proofs.Try.prog 125 = some 1 := by kernel_rfl
@[simp] theorem tyAgg125 : eAgg Go.Proofs.Try.prog 125 = some false := by kernel_rfl
@[simp] theorem tyStr125 : eStr Go.Proofs.Try.prog 125 = false := by kernel_rfl
@[simp] theorem tyInt125 : eInt Go.Proofs.Try.prog 125 = some .u8 := by kernel_rfl
@[simp] theorem tyZero125 : eZero Go.Proofs.Try.prog 125 = some [.int .u8 0] := by kernel_rfl
@[simp] theorem tySz126 : eSz Go.Proofs.Try.prog 126 = some 1 := by kernel_rfl
@[simp] theorem tyAgg126 : eAgg Go.Proofs.Try.prog 126 = some false := by kernel_rfl
@[simp] theorem tyStr126 : eStr Go.Proofs.Try.prog 126 = false := by kernel_rfl
@[simp] theorem tyZero126 : eZero Go.Proofs.Try.prog 126 = some [.nilFunc] := by kernel_rfl
@[simp] theorem tySz127 : eSz Go.Proofs.Try.prog 127 = some 1 := by kernel_rfl
@[simp] theorem tyAgg127 : eAgg Go.Proofs.Try.prog 127 = some false := by kernel_rfl
@[simp] theorem tyStr127 : eStr Go.Proofs.Try.prog 127 = false := by kernel_rfl
@[simp] theorem tyInt127 : eInt Go.Proofs.Try.prog 127 = some .i32 := by kernel_rfl
@[simp] theorem tyZero127 : eZero Go.Proofs.Try.prog 127 = some [.int .i32 0] := by kernel_rfl
@[simp] theorem tySz128 : eSz Go.Proofs.Try.prog 128 = some 1 := by kernel_rfl
@[simp] theorem tyAgg128 : eAgg Go.Proofs.Try.prog 128 = some false := by kernel_rfl
@[simp] theorem tyStr128 : eStr Go.Proofs.Try.prog 128 = false := by kernel_rfl
@[simp] theorem tyInt128 : eInt Go.Proofs.Try.prog 128 = some .i32 := by kernel_rfl
@[simp] theorem tyZero128 : eZero Go.Proofs.Try.prog 128 = some [.int .i32 0] := by kernel_rfl
@[simp] theorem tySz129 : eSz Go.Proofs.Try.prog 129 = some 11 := by kernel_rfl
@[simp] theorem tyAgg129 : eAgg Go.Proofs.Try.prog 129 = some true := by kernel_rfl
@[simp] theorem tyStr129 : eStr Go.Proofs.Try.prog 129 = false := by kernel_rfl
@[simp] theorem tyFld129_0 : eFld Go.Proofs.Try.prog 129 0 = some (12, 0) := by kernel_rfl
@[simp] theorem tyFld129_1 : eFld Go.Proofs.Try.prog 129 1 = some (12, 1) := by kernel_rfl
@[simp] theorem tyFld129_2 : eFld Go.Proofs.Try.prog 129 2 = some (115, 2) := by kernel_rfl
@[simp] theorem tyFld129_3 : eFld Go.Proofs.Try.prog 129 3 = some (124, 3) := by kernel_rfl
@[simp] theorem tyFld129_4 : eFld Go.Proofs.Try.prog 129 4 = some (5, 4) := by kernel_rfl
@[simp] theorem tyFld129_5 : eFld Go.Proofs.Try.prog 129 5 = some (5, 5) := by kernel_rfl
@[simp] theorem tyFld129_6 : eFld Go.Proofs.Try.prog 129 6 = some (125, 6) := by kernel_rfl
@[simp] theorem tyFld129_7 : eFld Go.Proofs.Try.prog 129 7 = some (126, 7) := by kernel_rfl
@[simp] theorem tyFld129_8 : eFld Go.Proofs.Try.prog 129 8 = some (78, 8) := by kernel_rfl
@[simp] theorem tyFld129_9 : eFld Go.Proofs.Try.prog 129 9 = some (127, 9) := by kernel_rfl
@[simp] theorem tyFld129_10 : eFld Go.Proofs.Try.prog 129 10 = some (128, 10) := by kernel_rfl
@[simp] theorem tyPl129 : ePl Go.Proofs.Try.prog 129 = some [(0, 1), (1, 1), (2, 1), (3, 1), (4, 1), (5, 1), (6, 1), (7, 1), (8, 1), (9, 1), (10, 1)] := by kernel_rfl
@[simp] theorem tyZero129 : eZero Go.Proofs.Try.prog 129 = some [.int .u64 0, .int .u64 0, .int .u32 0, .int .u8 0, .int .u8 0, .int .u8 0, .int .u8 0, .nilFunc, .pointer none, .int .i32 0, .int .i32 0] := by kernel_rfl
@[simp] theorem tySz130 : eSz Go.Proofs.Try.prog 130 = some 11 := by kernel_rfl
@[simp] theorem tyAgg130 : eAgg Go.Proofs.Try.prog 130 = some true := by kernel_rfl
@[simp] theorem tyStr130 : eStr Go.Proofs.Try.prog 130 = false := by kernel_rfl
@[simp] theorem tyFld130_0 : eFld Go.Proofs.Try.prog 130 0 = some (12, 0) := by kernel_rfl
@[simp] theorem tyFld130_1 : eFld Go.Proofs.Try.prog 130 1 = some (12, 1) := by kernel_rfl
@[simp] theorem tyFld130_2 : eFld Go.Proofs.Try.prog 130 2 = some (115, 2) := by kernel_rfl
@[simp] theorem tyFld130_3 : eFld Go.Proofs.Try.prog 130 3 = some (124, 3) := by kernel_rfl
@[simp] theorem tyFld130_4 : eFld Go.Proofs.Try.prog 130 4 = some (5, 4) := by kernel_rfl
@[simp] theorem tyFld130_5 : eFld Go.Proofs.Try.prog 130 5 = some (5, 5) := by kernel_rfl
@[simp] theorem tyFld130_6 : eFld Go.Proofs.Try.prog 130 6 = some (125, 6) := by kernel_rfl
@[simp] theorem tyFld130_7 : eFld Go.Proofs.Try.prog 130 7 = some (126, 7) := by kernel_rfl
@[simp] theorem tyFld130_8 : eFld Go.Proofs.Try.prog 130 8 = some (78, 8) := by kernel_rfl
@[simp] theorem tyFld130_9 : eFld Go.Proofs.Try.prog 130 9 = some (127, 9) := by kernel_rfl
@[simp] theorem tyFld130_10 : eFld Go.Proofs.Try.prog 130 10 = some (128, 10) := by kernel_rfl
@[simp] theorem tyPl130 : ePl Go.Proofs.Try.prog 130 = some [(0, 1), (1, 1), (2, 1), (3, 1), (4, 1), (5, 1), (6, 1), (7, 1), (8, 1), (9, 1), (10, 1)] := by kernel_rfl
@[simp] theorem tyZero130 : eZero Go.Proofs.Try.prog 130 = some [.int .u64 0, .int .u64 0, .int .u32 0, .int .u8 0, .int .u8 0, .int .u8 0, .int .u8 0, .nilFunc, .pointer none, .int .i32 0, .int .i32 0] := by kernel_rfl
@[simp] theorem tyEq32 : eEq Go.Proofs.Try.prog 32 = some [0, 0] := by kernel_rfl
@[simp] theorem tyEq33 : eEq Go.Proofs.Try.prog 33 = some [0, 0] := by kernel_rfl
@[simp] theorem tyEq37 : eEq Go.Proofs.Try.prog 37 = some [1, 1, 0, 0, 2] := by kernel_rfl
@[simp] theorem tyEq38 : eEq Go.Proofs.Try.prog 38 = some [1, 1, 0, 0, 2] := by kernel_rfl
@[simp] theorem tyEq85 : eEq Go.Proofs.Try.prog 85 = some [1, 0] := by kernel_rfl
@[simp] theorem tyEq86 : eEq Go.Proofs.Try.prog 86 = some [1, 0] := by kernel_rfl
end Go.Lw
