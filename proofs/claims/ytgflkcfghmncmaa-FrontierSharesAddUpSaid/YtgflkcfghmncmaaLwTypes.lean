/-
  CLOSED FACTS ON THE TYPES OF THIS PROGRAM (printed by a program of ours; each is checked by the kernel).
-/
import Derived.Test.YtgflkcfghmncmaaLwRun
import Derived.Test.YtgflkcfghmncmaaRows
namespace Go.Lw
@[simp] theorem tySz0 : eSz Go.Proofs.Try.prog 0 = some 1 := by kernel_rfl
@[simp] theorem tyAgg0 : eAgg Go.Proofs.Try.prog 0 = some false := by kernel_rfl
@[simp] theorem tyStr0 : eStr Go.Proofs.Try.prog 0 = false := by kernel_rfl
@[simp] theorem tySz1 : eSz Go.Proofs.Try.prog 1 = some 1 := by kernel_rfl
@[simp] theorem tyAgg1 : eAgg Go.Proofs.Try.prog 1 = some false := by kernel_rfl
@[simp] theorem tyStr1 : eStr Go.Proofs.Try.prog 1 = false := by kernel_rfl
@[simp] theorem tyZero1 : eZero Go.Proofs.Try.prog 1 = some [.nilFunc] := by kernel_rfl
@[simp] theorem tySz2 : eSz Go.Proofs.Try.prog 2 = some 1 := by kernel_rfl
@[simp] theorem tyAgg2 : eAgg Go.Proofs.Try.prog 2 = some false := by kernel_rfl
@[simp] theorem tyStr2 : eStr Go.Proofs.Try.prog 2 = false := by kernel_rfl
@[simp] theorem tyInt2 : eInt Go.Proofs.Try.prog 2 = some .i64 := by kernel_rfl
@[simp] theorem tyZero2 : eZero Go.Proofs.Try.prog 2 = some [.int .i64 0] := by kernel_rfl
@[simp] theorem tySz3 : eSz Go.Proofs.Try.prog 3 = some 1 := by kernel_rfl
@[simp] theorem tyAgg3 : eAgg Go.Proofs.Try.prog 3 = some false := by kernel_rfl
@[simp] theorem tyStr3 : eStr Go.Proofs.Try.prog 3 = false := by kernel_rfl
@[simp] theorem tyInt3 : eInt Go.Proofs.Try.prog 3 = some .i64 := by kernel_rfl
@[simp] theorem tyZero3 : eZero Go.Proofs.Try.prog 3 = some [.int .i64 0] := by kernel_rfl
@[simp] theorem tySz4 : eSz Go.Proofs.Try.prog 4 = some 1 := by kernel_rfl
@[simp] theorem tyAgg4 : eAgg Go.Proofs.Try.prog 4 = some false := by kernel_rfl
@[simp] theorem tyStr4 : eStr Go.Proofs.Try.prog 4 = false := by kernel_rfl
@[simp] theorem tyBool4 : eBool Go.Proofs.Try.prog 4 = true := by kernel_rfl
@[simp] theorem tyZero4 : eZero Go.Proofs.Try.prog 4 = some [.bool false] := by kernel_rfl
@[simp] theorem tySz5 : eSz Go.Proofs.Try.prog 5 = some 1 := by kernel_rfl
@[simp] theorem tyAgg5 : eAgg Go.Proofs.Try.prog 5 = some false := by kernel_rfl
@[simp] theorem tyStr5 : eStr Go.Proofs.Try.prog 5 = false := by kernel_rfl
@[simp] theorem tyInt5 : eInt Go.Proofs.Try.prog 5 = some .u8 := by kernel_rfl
@[simp] theorem tyZero5 : eZero Go.Proofs.Try.prog 5 = some [.int .u8 0] := by kernel_rfl
@[simp] theorem tySz6 : eSz Go.Proofs.Try.prog 6 = some 1 := by kernel_rfl
@[simp] theorem tyAgg6 : eAgg Go.Proofs.Try.prog 6 = some false := by kernel_rfl
@[simp] theorem tyStr6 : eStr Go.Proofs.Try.prog 6 = false := by kernel_rfl
@[simp] theorem tyInt6 : eInt Go.Proofs.Try.prog 6 = some .u8 := by kernel_rfl
@[simp] theorem tyZero6 : eZero Go.Proofs.Try.prog 6 = some [.int .u8 0] := by kernel_rfl
@[simp] theorem tySz7 : eSz Go.Proofs.Try.prog 7 = some 4 := by kernel_rfl
@[simp] theorem tyAgg7 : eAgg Go.Proofs.Try.prog 7 = some true := by kernel_rfl
@[simp] theorem tyStr7 : eStr Go.Proofs.Try.prog 7 = false := by kernel_rfl
@[simp] theorem tyFld7_0 : eFld Go.Proofs.Try.prog 7 0 = some (2, 0) := by kernel_rfl
@[simp] theorem tyFld7_1 : eFld Go.Proofs.Try.prog 7 1 = some (3, 1) := by kernel_rfl
@[simp] theorem tyFld7_2 : eFld Go.Proofs.Try.prog 7 2 = some (4, 2) := by kernel_rfl
@[simp] theorem tyFld7_3 : eFld Go.Proofs.Try.prog 7 3 = some (6, 3) := by kernel_rfl
@[simp] theorem tyPl7 : ePl Go.Proofs.Try.prog 7 = some [(0, 1), (1, 1), (2, 1), (3, 1)] := by kernel_rfl
@[simp] theorem tyZero7 : eZero Go.Proofs.Try.prog 7 = some [.int .i64 0, .int .i64 0, .bool false, .int .u8 0] := by kernel_rfl
@[simp] theorem tySz8 : eSz Go.Proofs.Try.prog 8 = some 4 := by kernel_rfl
@[simp] theorem tyAgg8 : eAgg Go.Proofs.Try.prog 8 = some true := by kernel_rfl
@[simp] theorem tyStr8 : eStr Go.Proofs.Try.prog 8 = false := by kernel_rfl
@[simp] theorem tyFld8_0 : eFld Go.Proofs.Try.prog 8 0 = some (2, 0) := by kernel_rfl
@[simp] theorem tyFld8_1 : eFld Go.Proofs.Try.prog 8 1 = some (3, 1) := by kernel_rfl
@[simp] theorem tyFld8_2 : eFld Go.Proofs.Try.prog 8 2 = some (4, 2) := by kernel_rfl
@[simp] theorem tyFld8_3 : eFld Go.Proofs.Try.prog 8 3 = some (6, 3) := by kernel_rfl
@[simp] theorem tyPl8 : ePl Go.Proofs.Try.prog 8 = some [(0, 1), (1, 1), (2, 1), (3, 1)] := by kernel_rfl
@[simp] theorem tyZero8 : eZero Go.Proofs.Try.prog 8 = some [.int .i64 0, .int .i64 0, .bool false, .int .u8 0] := by kernel_rfl
@[simp] theorem tySz9 : eSz Go.Proofs.Try.prog 9 = some 1 := by kernel_rfl
@[simp] theorem tyAgg9 : eAgg Go.Proofs.Try.prog 9 = some false := by kernel_rfl
@[simp] theorem tyStr9 : eStr Go.Proofs.Try.prog 9 = true := by kernel_rfl
@[simp] theorem tyZero9 : eZero Go.Proofs.Try.prog 9 = some [.string .empty] := by kernel_rfl
@[simp] theorem tySz10 : eSz Go.Proofs.Try.prog 10 = some 1 := by kernel_rfl
@[simp] theorem tyAgg10 : eAgg Go.Proofs.Try.prog 10 = some false := by kernel_rfl
@[simp] theorem tyStr10 : eStr Go.Proofs.Try.prog 10 = true := by kernel_rfl
@[simp] theorem tyZero10 : eZero Go.Proofs.Try.prog 10 = some [.string .empty] := by kernel_rfl
@[simp] theorem tySz11 : eSz Go.Proofs.Try.prog 11 = some 1 := by kernel_rfl
@[simp] theorem tyAgg11 : eAgg Go.Proofs.Try.prog 11 = some false := by kernel_rfl
@[simp] theorem tyStr11 : eStr Go.Proofs.Try.prog 11 = true := by kernel_rfl
@[simp] theorem tyZero11 : eZero Go.Proofs.Try.prog 11 = some [.string .empty] := by kernel_rfl
@[simp] theorem tySz12 : eSz Go.Proofs.Try.prog 12 = some 1 := by kernel_rfl
@[simp] theorem tyAgg12 : eAgg Go.Proofs.Try.prog 12 = some false := by kernel_rfl
@[simp] theorem tyStr12 : eStr Go.Proofs.Try.prog 12 = false := by kernel_rfl
@[simp] theorem tyInt12 : eInt Go.Proofs.Try.prog 12 = some .u64 := by kernel_rfl
@[simp] theorem tyZero12 : eZero Go.Proofs.Try.prog 12 = some [.int .u64 0] := by kernel_rfl
@[simp] theorem tySz13 : eSz Go.Proofs.Try.prog 13 = some 2 := by kernel_rfl
@[simp] theorem tyAgg13 : eAgg Go.Proofs.Try.prog 13 = some true := by kernel_rfl
@[simp] theorem tyStr13 : eStr Go.Proofs.Try.prog 13 = false := by kernel_rfl
@[simp] theorem tyFld13_0 : eFld Go.Proofs.Try.prog 13 0 = some (9, 0) := by kernel_rfl
@[simp] theorem tyFld13_1 : eFld Go.Proofs.Try.prog 13 1 = some (12, 1) := by kernel_rfl
@[simp] theorem tyPl13 : ePl Go.Proofs.Try.prog 13 = some [(0, 1), (1, 1)] := by kernel_rfl
@[simp] theorem tyZero13 : eZero Go.Proofs.Try.prog 13 = some [.string .empty, .int .u64 0] := by kernel_rfl
@[simp] theorem tySz14 : eSz Go.Proofs.Try.prog 14 = some 2 := by kernel_rfl
@[simp] theorem tyAgg14 : eAgg Go.Proofs.Try.prog 14 = some true := by kernel_rfl
@[simp] theorem tyStr14 : eStr Go.Proofs.Try.prog 14 = false := by kernel_rfl
@[simp] theorem tyFld14_0 : eFld Go.Proofs.Try.prog 14 0 = some (9, 0) := by kernel_rfl
@[simp] theorem tyFld14_1 : eFld Go.Proofs.Try.prog 14 1 = some (12, 1) := by kernel_rfl
@[simp] theorem tyPl14 : ePl Go.Proofs.Try.prog 14 = some [(0, 1), (1, 1)] := by kernel_rfl
@[simp] theorem tyZero14 : eZero Go.Proofs.Try.prog 14 = some [.string .empty, .int .u64 0] := by kernel_rfl
@[simp] theorem tySz15 : eSz Go.Proofs.Try.prog 15 = some 1 := by kernel_rfl
@[simp] theorem tyAgg15 : eAgg Go.Proofs.Try.prog 15 = some false := by kernel_rfl
@[simp] theorem tyStr15 : eStr Go.Proofs.Try.prog 15 = false := by kernel_rfl
@[simp] theorem tyZero15 : eZero Go.Proofs.Try.prog 15 = some [.pointer none] := by kernel_rfl
@[simp] theorem tySz16 : eSz Go.Proofs.Try.prog 16 = some 1 := by kernel_rfl
@[simp] theorem tyAgg16 : eAgg Go.Proofs.Try.prog 16 = some false := by kernel_rfl
@[simp] theorem tyStr16 : eStr Go.Proofs.Try.prog 16 = false := by kernel_rfl
@[simp] theorem tyZero16 : eZero Go.Proofs.Try.prog 16 = some [.pointer none] := by kernel_rfl
@[simp] theorem tySz17 : eSz Go.Proofs.Try.prog 17 = some 1 := by kernel_rfl
@[simp] theorem tyAgg17 : eAgg Go.Proofs.Try.prog 17 = some false := by kernel_rfl
@[simp] theorem tyStr17 : eStr Go.Proofs.Try.prog 17 = false := by kernel_rfl
@[simp] theorem tyZero17 : eZero Go.Proofs.Try.prog 17 = some [.pointer none] := by kernel_rfl
@[simp] theorem tySz18 : eSz Go.Proofs.Try.prog 18 = some 1 := by kernel_rfl
@[simp] theorem tyAgg18 : eAgg Go.Proofs.Try.prog 18 = some true := by kernel_rfl
@[simp] theorem tyStr18 : eStr Go.Proofs.Try.prog 18 = false := by kernel_rfl
@[simp] theorem tyFld18_0 : eFld Go.Proofs.Try.prog 18 0 = some (17, 0) := by kernel_rfl
@[simp] theorem tyPl18 : ePl Go.Proofs.Try.prog 18 = some [(0, 1)] := by kernel_rfl
@[simp] theorem tyZero18 : eZero Go.Proofs.Try.prog 18 = some [.pointer none] := by kernel_rfl
@[simp] theorem tySz19 : eSz Go.Proofs.Try.prog 19 = some 1 := by kernel_rfl
@[simp] theorem tyAgg19 : eAgg Go.Proofs.Try.prog 19 = some true := by kernel_rfl
@[simp] theorem tyStr19 : eStr Go.Proofs.Try.prog 19 = false := by kernel_rfl
@[simp] theorem tyFld19_0 : eFld Go.Proofs.Try.prog 19 0 = some (17, 0) := by kernel_rfl
@[simp] theorem tyPl19 : ePl Go.Proofs.Try.prog 19 = some [(0, 1)] := by kernel_rfl
@[simp] theorem tyZero19 : eZero Go.Proofs.Try.prog 19 = some [.pointer none] := by kernel_rfl
@[simp] theorem tySz20 : eSz Go.Proofs.Try.prog 20 = some 1 := by kernel_rfl
@[simp] theorem tyAgg20 : eAgg Go.Proofs.Try.prog 20 = some false := by kernel_rfl
@[simp] theorem tyStr20 : eStr Go.Proofs.Try.prog 20 = false := by kernel_rfl
@[simp] theorem tyZero20 : eZero Go.Proofs.Try.prog 20 = some [.nilIface] := by kernel_rfl
@[simp] theorem tySz21 : eSz Go.Proofs.Try.prog 21 = some 1 := by kernel_rfl
@[simp] theorem tyAgg21 : eAgg Go.Proofs.Try.prog 21 = some false := by kernel_rfl
@[simp] theorem tyStr21 : eStr Go.Proofs.Try.prog 21 = false := by kernel_rfl
@[simp] theorem tyInt21 : eInt Go.Proofs.Try.prog 21 = some .i32 := by kernel_rfl
@[simp] theorem tyZero21 : eZero Go.Proofs.Try.prog 21 = some [.int .i32 0] := by kernel_rfl
@[simp] theorem tySz22 : eSz Go.Proofs.Try.prog 22 = some 1 := by kernel_rfl
@[simp] theorem tyAgg22 : eAgg Go.Proofs.Try.prog 22 = some false := by kernel_rfl
@[simp] theorem tyElem22 : eElem Go.Proofs.Try.prog 22 = some (30, 2) := by kernel_rfl
@[simp] theorem tyBytes30 : eBytes Go.Proofs.Try.prog 30 = some 16 := by kernel_rfl
@[simp] theorem tyStr22 : eStr Go.Proofs.Try.prog 22 = false := by kernel_rfl
@[simp] theorem tyZero22 : eZero Go.Proofs.Try.prog 22 = some [.slice none 0 0] := by kernel_rfl
@[simp] theorem tySz23 : eSz Go.Proofs.Try.prog 23 = some 1 := by kernel_rfl
@[simp] theorem tyAgg23 : eAgg Go.Proofs.Try.prog 23 = some false := by kernel_rfl
@[simp] theorem tyStr23 : eStr Go.Proofs.Try.prog 23 = false := by kernel_rfl
@[simp] theorem tyInt23 : eInt Go.Proofs.Try.prog 23 = some .i64 := by kernel_rfl
@[simp] theorem tyZero23 : eZero Go.Proofs.Try.prog 23 = some [.int .i64 0] := by kernel_rfl
@[simp] theorem tySz24 : eSz Go.Proofs.Try.prog 24 = some 1 := by kernel_rfl
@[simp] theorem tyAgg24 : eAgg Go.Proofs.Try.prog 24 = some false := by kernel_rfl
@[simp] theorem tyStr24 : eStr Go.Proofs.Try.prog 24 = false := by kernel_rfl
@[simp] theorem tySz25 : eSz Go.Proofs.Try.prog 25 = some 1 := by kernel_rfl
@[simp] theorem tyAgg25 : eAgg Go.Proofs.Try.prog 25 = some false := by kernel_rfl
@[simp] theorem tyStr25 : eStr Go.Proofs.Try.prog 25 = false := by kernel_rfl
@[simp] theorem tyZero25 : eZero Go.Proofs.Try.prog 25 = some [.nilFunc] := by kernel_rfl
@[simp] theorem tySz26 : eSz Go.Proofs.Try.prog 26 = some 1 := by kernel_rfl
@[simp] theorem tyAgg26 : eAgg Go.Proofs.Try.prog 26 = some false := by kernel_rfl
@[simp] theorem tyStr26 : eStr Go.Proofs.Try.prog 26 = false := by kernel_rfl
@[simp] theorem tyZero26 : eZero Go.Proofs.Try.prog 26 = some [.nilFunc] := by kernel_rfl
@[simp] theorem tySz27 : eSz Go.Proofs.Try.prog 27 = some 1 := by kernel_rfl
@[simp] theorem tyAgg27 : eAgg Go.Proofs.Try.prog 27 = some false := by kernel_rfl
@[simp] theorem tyStr27 : eStr Go.Proofs.Try.prog 27 = false := by kernel_rfl
@[simp] theorem tyZero27 : eZero Go.Proofs.Try.prog 27 = some [.nilFunc] := by kernel_rfl
@[simp] theorem tySz28 : eSz Go.Proofs.Try.prog 28 = some 1 := by kernel_rfl
@[simp] theorem tyAgg28 : eAgg Go.Proofs.Try.prog 28 = some false := by kernel_rfl
@[simp] theorem tyStr28 : eStr Go.Proofs.Try.prog 28 = false := by kernel_rfl
@[simp] theorem tyZero28 : eZero Go.Proofs.Try.prog 28 = some [.nilFunc] := by kernel_rfl
@[simp] theorem tySz29 : eSz Go.Proofs.Try.prog 29 = some 2 := by kernel_rfl
@[simp] theorem tyAgg29 : eAgg Go.Proofs.Try.prog 29 = some true := by kernel_rfl
@[simp] theorem tyStr29 : eStr Go.Proofs.Try.prog 29 = false := by kernel_rfl
@[simp] theorem tyFld29_0 : eFld Go.Proofs.Try.prog 29 0 = some (3, 0) := by kernel_rfl
@[simp] theorem tyFld29_1 : eFld Go.Proofs.Try.prog 29 1 = some (4, 1) := by kernel_rfl
@[simp] theorem tyPl29 : ePl Go.Proofs.Try.prog 29 = some [(0, 1), (1, 1)] := by kernel_rfl
@[simp] theorem tyZero29 : eZero Go.Proofs.Try.prog 29 = some [.int .i64 0, .bool false] := by kernel_rfl
@[simp] theorem tySz30 : eSz Go.Proofs.Try.prog 30 = some 2 := by kernel_rfl
@[simp] theorem tyAgg30 : eAgg Go.Proofs.Try.prog 30 = some true := by kernel_rfl
@[simp] theorem tyStr30 : eStr Go.Proofs.Try.prog 30 = false := by kernel_rfl
@[simp] theorem tyFld30_0 : eFld Go.Proofs.Try.prog 30 0 = some (3, 0) := by kernel_rfl
@[simp] theorem tyFld30_1 : eFld Go.Proofs.Try.prog 30 1 = some (4, 1) := by kernel_rfl
@[simp] theorem tyPl30 : ePl Go.Proofs.Try.prog 30 = some [(0, 1), (1, 1)] := by kernel_rfl
@[simp] theorem tyZero30 : eZero Go.Proofs.Try.prog 30 = some [.int .i64 0, .bool false] := by kernel_rfl
@[simp] theorem tySz31 : eSz Go.Proofs.Try.prog 31 = some 1 := by kernel_rfl
@[simp] theorem tyAgg31 : eAgg Go.Proofs.Try.prog 31 = some false := by kernel_rfl
@[simp] theorem tyStr31 : eStr Go.Proofs.Try.prog 31 = false := by kernel_rfl
@[simp] theorem tyZero31 : eZero Go.Proofs.Try.prog 31 = some [.nilFunc] := by kernel_rfl
@[simp] theorem tySz32 : eSz Go.Proofs.Try.prog 32 = some 1 := by kernel_rfl
@[simp] theorem tyAgg32 : eAgg Go.Proofs.Try.prog 32 = some false := by kernel_rfl
@[simp] theorem tyElem32 : eElem Go.Proofs.Try.prog 32 = some (37, 2) := by kernel_rfl
@[simp] theorem tyBytes37 : eBytes Go.Proofs.Try.prog 37 = some 16 := by kernel_rfl
@[simp] theorem tyStr32 : eStr Go.Proofs.Try.prog 32 = false := by kernel_rfl
@[simp] theorem tyZero32 : eZero Go.Proofs.Try.prog 32 = some [.slice none 0 0] := by kernel_rfl
@[simp] theorem tySz33 : eSz Go.Proofs.Try.prog 33 = some 1 := by kernel_rfl
@[simp] theorem tyAgg33 : eAgg Go.Proofs.Try.prog 33 = some false := by kernel_rfl
@[simp] theorem tyElem33 : eElem Go.Proofs.Try.prog 33 = some (3, 1) := by kernel_rfl
@[simp] theorem tyBytes3 : eBytes Go.Proofs.Try.prog 3 = some 8 := by kernel_rfl
@[simp] theorem tyStr33 : eStr Go.Proofs.Try.prog 33 = false := by kernel_rfl
@[simp] theorem tyZero33 : eZero Go.Proofs.Try.prog 33 = some [.slice none 0 0] := by kernel_rfl
@[simp] theorem tySz34 : eSz Go.Proofs.Try.prog 34 = some 1 := by kernel_rfl
@[simp] theorem tyAgg34 : eAgg Go.Proofs.Try.prog 34 = some false := by kernel_rfl
@[simp] theorem tyStr34 : eStr Go.Proofs.Try.prog 34 = false := by kernel_rfl
@[simp] theorem tySz35 : eSz Go.Proofs.Try.prog 35 = some 1 := by kernel_rfl
@[simp] theorem tyAgg35 : eAgg Go.Proofs.Try.prog 35 = some false := by kernel_rfl
@[simp] theorem tyStr35 : eStr Go.Proofs.Try.prog 35 = false := by kernel_rfl
@[simp] theorem tyZero35 : eZero Go.Proofs.Try.prog 35 = some [.nilFunc] := by kernel_rfl
@[simp] theorem tySz36 : eSz Go.Proofs.Try.prog 36 = some 2 := by kernel_rfl
@[simp] theorem tyAgg36 : eAgg Go.Proofs.Try.prog 36 = some true := by kernel_rfl
@[simp] theorem tyStr36 : eStr Go.Proofs.Try.prog 36 = false := by kernel_rfl
@[simp] theorem tyFld36_0 : eFld Go.Proofs.Try.prog 36 0 = some (3, 0) := by kernel_rfl
@[simp] theorem tyFld36_1 : eFld Go.Proofs.Try.prog 36 1 = some (3, 1) := by kernel_rfl
@[simp] theorem tyPl36 : ePl Go.Proofs.Try.prog 36 = some [(0, 1), (1, 1)] := by kernel_rfl
@[simp] theorem tyZero36 : eZero Go.Proofs.Try.prog 36 = some [.int .i64 0, .int .i64 0] := by kernel_rfl
@[simp] theorem tySz37 : eSz Go.Proofs.Try.prog 37 = some 2 := by kernel_rfl
@[simp] theorem tyAgg37 : eAgg Go.Proofs.Try.prog 37 = some true := by kernel_rfl
@[simp] theorem tyStr37 : eStr Go.Proofs.Try.prog 37 = false := by kernel_rfl
@[simp] theorem tyFld37_0 : eFld Go.Proofs.Try.prog 37 0 = some (3, 0) := by kernel_rfl
@[simp] theorem tyFld37_1 : eFld Go.Proofs.Try.prog 37 1 = some (3, 1) := by kernel_rfl
@[simp] theorem tyPl37 : ePl Go.Proofs.Try.prog 37 = some [(0, 1), (1, 1)] := by kernel_rfl
@[simp] theorem tyZero37 : eZero Go.Proofs.Try.prog 37 = some [.int .i64 0, .int .i64 0] := by kernel_rfl
@[simp] theorem tySz38 : eSz Go.Proofs.Try.prog 38 = some 1 := by kernel_rfl
@[simp] theorem tyAgg38 : eAgg Go.Proofs.Try.prog 38 = some false := by kernel_rfl
@[simp] theorem tyStr38 : eStr Go.Proofs.Try.prog 38 = false := by kernel_rfl
@[simp] theorem tyZero38 : eZero Go.Proofs.Try.prog 38 = some [.nilFunc] := by kernel_rfl
@[simp] theorem tySz39 : eSz Go.Proofs.Try.prog 39 = some 1 := by kernel_rfl
@[simp] theorem tyAgg39 : eAgg Go.Proofs.Try.prog 39 = some false := by kernel_rfl
@[simp] theorem tyStr39 : eStr Go.Proofs.Try.prog 39 = false := by kernel_rfl
@[simp] theorem tyZero39 : eZero Go.Proofs.Try.prog 39 = some [.nilFunc] := by kernel_rfl
@[simp] theorem tySz40 : eSz Go.Proofs.Try.prog 40 = some 1 := by kernel_rfl
@[simp] theorem tyAgg40 : eAgg Go.Proofs.Try.prog 40 = some false := by kernel_rfl
@[simp] theorem tyStr40 : eStr Go.Proofs.Try.prog 40 = false := by kernel_rfl
@[simp] theorem tyZero40 : eZero Go.Proofs.Try.prog 40 = some [.nilFunc] := by kernel_rfl
@[simp] theorem tySz41 : eSz Go.Proofs.Try.prog 41 = some 1 := by kernel_rfl
@[simp] theorem tyAgg41 : eAgg Go.Proofs.Try.prog 41 = some false := by kernel_rfl
@[simp] theorem tyStr41 : eStr Go.Proofs.Try.prog 41 = false := by kernel_rfl
@[simp] theorem tyZero41 : eZero Go.Proofs.Try.prog 41 = some [.nilFunc] := by kernel_rfl
@[simp] theorem tySz42 : eSz Go.Proofs.Try.prog 42 = some 1 := by kernel_rfl
@[simp] theorem tyAgg42 : eAgg Go.Proofs.Try.prog 42 = some false := by kernel_rfl
@[simp] theorem tyStr42 : eStr Go.Proofs.Try.prog 42 = false := by kernel_rfl
@[simp] theorem tyZero42 : eZero Go.Proofs.Try.prog 42 = some [.nilFunc] := by kernel_rfl
@[simp] theorem tySz43 : eSz Go.Proofs.Try.prog 43 = some 1 := by kernel_rfl
@[simp] theorem tyAgg43 : eAgg Go.Proofs.Try.prog 43 = some false := by kernel_rfl
@[simp] theorem tyStr43 : eStr Go.Proofs.Try.prog 43 = false := by kernel_rfl
@[simp] theorem tyZero43 : eZero Go.Proofs.Try.prog 43 = some [.nilFunc] := by kernel_rfl
@[simp] theorem tySz44 : eSz Go.Proofs.Try.prog 44 = some 1 := by kernel_rfl
@[simp] theorem tyAgg44 : eAgg Go.Proofs.Try.prog 44 = some false := by kernel_rfl
@[simp] theorem tyStr44 : eStr Go.Proofs.Try.prog 44 = false := by kernel_rfl
@[simp] theorem tyZero44 : eZero Go.Proofs.Try.prog 44 = some [.nilFunc] := by kernel_rfl
@[simp] theorem tySz45 : eSz Go.Proofs.Try.prog 45 = some 1 := by kernel_rfl
@[simp] theorem tyAgg45 : eAgg Go.Proofs.Try.prog 45 = some false := by kernel_rfl
@[simp] theorem tyStr45 : eStr Go.Proofs.Try.prog 45 = false := by kernel_rfl
@[simp] theorem tyZero45 : eZero Go.Proofs.Try.prog 45 = some [.nilFunc] := by kernel_rfl
@[simp] theorem tySz46 : eSz Go.Proofs.Try.prog 46 = some 1 := by kernel_rfl
@[simp] theorem tyAgg46 : eAgg Go.Proofs.Try.prog 46 = some false := by kernel_rfl
@[simp] theorem tyStr46 : eStr Go.Proofs.Try.prog 46 = false := by kernel_rfl
@[simp] theorem tyZero46 : eZero Go.Proofs.Try.prog 46 = some [.nilFunc] := by kernel_rfl
@[simp] theorem tySz47 : eSz Go.Proofs.Try.prog 47 = some 4 := by kernel_rfl
@[simp] theorem tyAgg47 : eAgg Go.Proofs.Try.prog 47 = some true := by kernel_rfl
@[simp] theorem tyStr47 : eStr Go.Proofs.Try.prog 47 = false := by kernel_rfl
@[simp] theorem tyFld47_0 : eFld Go.Proofs.Try.prog 47 0 = some (17, 0) := by kernel_rfl
@[simp] theorem tyFld47_1 : eFld Go.Proofs.Try.prog 47 1 = some (17, 1) := by kernel_rfl
@[simp] theorem tyFld47_2 : eFld Go.Proofs.Try.prog 47 2 = some (17, 2) := by kernel_rfl
@[simp] theorem tyFld47_3 : eFld Go.Proofs.Try.prog 47 3 = some (9, 3) := by kernel_rfl
@[simp] theorem tyPl47 : ePl Go.Proofs.Try.prog 47 = some [(0, 1), (1, 1), (2, 1), (3, 1)] := by kernel_rfl
@[simp] theorem tyZero47 : eZero Go.Proofs.Try.prog 47 = some [.pointer none, .pointer none, .pointer none, .string .empty] := by kernel_rfl
@[simp] theorem tySz48 : eSz Go.Proofs.Try.prog 48 = some 4 := by kernel_rfl
@[simp] theorem tyAgg48 : eAgg Go.Proofs.Try.prog 48 = some true := by kernel_rfl
@[simp] theorem tyStr48 : eStr Go.Proofs.Try.prog 48 = false := by kernel_rfl
@[simp] theorem tyFld48_0 : eFld Go.Proofs.Try.prog 48 0 = some (17, 0) := by kernel_rfl
@[simp] theorem tyFld48_1 : eFld Go.Proofs.Try.prog 48 1 = some (17, 1) := by kernel_rfl
@[simp] theorem tyFld48_2 : eFld Go.Proofs.Try.prog 48 2 = some (17, 2) := by kernel_rfl
@[simp] theorem tyFld48_3 : eFld Go.Proofs.Try.prog 48 3 = some (9, 3) := by kernel_rfl
@[simp] theorem tyPl48 : ePl Go.Proofs.Try.prog 48 = some [(0, 1), (1, 1), (2, 1), (3, 1)] := by kernel_rfl
@[simp] theorem tyZero48 : eZero Go.Proofs.Try.prog 48 = some [.pointer none, .pointer none, .pointer none, .string .empty] := by kernel_rfl
@[simp] theorem tySz49 : eSz Go.Proofs.Try.prog 49 = some 0 := by kernel_rfl
@[simp] theorem tyAgg49 : eAgg Go.Proofs.Try.prog 49 = some true := by kernel_rfl
@[simp] theorem tyStr49 : eStr Go.Proofs.Try.prog 49 = false := by kernel_rfl
@[simp] theorem tyPl49 : ePl Go.Proofs.Try.prog 49 = some [] := by kernel_rfl
@[simp] theorem tyZero49 : eZero Go.Proofs.Try.prog 49 = some [] := by kernel_rfl
@[simp] theorem tySz50 : eSz Go.Proofs.Try.prog 50 = some 0 := by kernel_rfl
@[simp] theorem tyAgg50 : eAgg Go.Proofs.Try.prog 50 = some true := by kernel_rfl
@[simp] theorem tyStr50 : eStr Go.Proofs.Try.prog 50 = false := by kernel_rfl
@[simp] theorem tyPl50 : ePl Go.Proofs.Try.prog 50 = some [(0, 0)] := by kernel_rfl
@[simp] theorem tyZero50 : eZero Go.Proofs.Try.prog 50 = some [] := by kernel_rfl
@[simp] theorem tySz51 : eSz Go.Proofs.Try.prog 51 = some 0 := by kernel_rfl
@[simp] theorem tyAgg51 : eAgg Go.Proofs.Try.prog 51 = some true := by kernel_rfl
@[simp] theorem tyStr51 : eStr Go.Proofs.Try.prog 51 = false := by kernel_rfl
@[simp] theorem tyPl51 : ePl Go.Proofs.Try.prog 51 = some [(0, 0)] := by kernel_rfl
@[simp] theorem tyZero51 : eZero Go.Proofs.Try.prog 51 = some [] := by kernel_rfl
@[simp] theorem tySz52 : eSz Go.Proofs.Try.prog 52 = some 1 := by kernel_rfl
@[simp] theorem tyAgg52 : eAgg Go.Proofs.Try.prog 52 = some false := by kernel_rfl
@[simp] theorem tyStr52 : eStr Go.Proofs.Try.prog 52 = false := by kernel_rfl
@[simp] theorem tyZero52 : eZero Go.Proofs.Try.prog 52 = some [.nilFunc] := by kernel_rfl
@[simp] theorem tySz53 : eSz Go.Proofs.Try.prog 53 = some 1 := by kernel_rfl
@[simp] theorem tyAgg53 : eAgg Go.Proofs.Try.prog 53 = some false := by kernel_rfl
@[simp] theorem tyStr53 : eStr Go.Proofs.Try.prog 53 = false := by kernel_rfl
@[simp] theorem tyInt53 : eInt Go.Proofs.Try.prog 53 = some .u32 := by kernel_rfl
@[simp] theorem tyZero53 : eZero Go.Proofs.Try.prog 53 = some [.int .u32 0] := by kernel_rfl
@[simp] theorem tySz54 : eSz Go.Proofs.Try.prog 54 = some 1 := by kernel_rfl
@[simp] theorem tyAgg54 : eAgg Go.Proofs.Try.prog 54 = some false := by kernel_rfl
@[simp] theorem tyStr54 : eStr Go.Proofs.Try.prog 54 = false := by kernel_rfl
@[simp] theorem tyInt54 : eInt Go.Proofs.Try.prog 54 = some .u8 := by kernel_rfl
@[simp] theorem tyZero54 : eZero Go.Proofs.Try.prog 54 = some [.int .u8 0] := by kernel_rfl
@[simp] theorem tySz55 : eSz Go.Proofs.Try.prog 55 = some 1 := by kernel_rfl
@[simp] theorem tyAgg55 : eAgg Go.Proofs.Try.prog 55 = some false := by kernel_rfl
@[simp] theorem tyStr55 : eStr Go.Proofs.Try.prog 55 = false := by kernel_rfl
@[simp] theorem tyInt55 : eInt Go.Proofs.Try.prog 55 = some .u8 := by kernel_rfl
@[simp] theorem tyZero55 : eZero Go.Proofs.Try.prog 55 = some [.int .u8 0] := by kernel_rfl
@[simp] theorem tySz56 : eSz Go.Proofs.Try.prog 56 = some 1 := by kernel_rfl
@[simp] theorem tyAgg56 : eAgg Go.Proofs.Try.prog 56 = some false := by kernel_rfl
@[simp] theorem tyStr56 : eStr Go.Proofs.Try.prog 56 = false := by kernel_rfl
@[simp] theorem tyZero56 : eZero Go.Proofs.Try.prog 56 = some [.nilFunc] := by kernel_rfl
@[simp] theorem tySz57 : eSz Go.Proofs.Try.prog 57 = some 1 := by kernel_rfl
@[simp] theorem tyAgg57 : eAgg Go.Proofs.Try.prog 57 = some false := by kernel_rfl
@[simp] theorem tyStr57 : eStr Go.Proofs.Try.prog 57 = false := by kernel_rfl
@[simp] theorem tyZero57 : eZero Go.Proofs.Try.prog 57 = some [.pointer none] := by kernel_rfl
@[simp] theorem tySz58 : eSz Go.Proofs.Try.prog 58 = some 1 := by kernel_rfl
@[simp] theorem tyAgg58 : eAgg Go.Proofs.Try.prog 58 = some false := by kernel_rfl
@[simp] theorem tyStr58 : eStr Go.Proofs.Try.prog 58 = false := by kernel_rfl
@[simp] theorem tyInt58 : eInt Go.Proofs.Try.prog 58 = some .i32 := by kernel_rfl
@[simp] theorem tyZero58 : eZero Go.Proofs.Try.prog 58 = some [.int .i32 0] := by kernel_rfl
@[simp] theorem tySz59 : eSz Go.Proofs.Try.prog 59 = some 1 := by kernel_rfl
@[simp] theorem tyAgg59 : eAgg Go.Proofs.Try.prog 59 = some false := by kernel_rfl
@[simp] theorem tyStr59 : eStr Go.Proofs.Try.prog 59 = false := by kernel_rfl
@[simp] theorem tyInt59 : eInt Go.Proofs.Try.prog 59 = some .i32 := by kernel_rfl
@[simp] theorem tyZero59 : eZero Go.Proofs.Try.prog 59 = some [.int .i32 0] := by kernel_rfl
@[simp] theorem tySz60 : eSz Go.Proofs.Try.prog 60 = some 11 := by kernel_rfl
@[simp] theorem tyAgg60 : eAgg Go.Proofs.Try.prog 60 = some true := by kernel_rfl
@[simp] theorem tyStr60 : eStr Go.Proofs.Try.prog 60 = false := by kernel_rfl
@[simp] theorem tyFld60_0 : eFld Go.Proofs.Try.prog 60 0 = some (12, 0) := by kernel_rfl
@[simp] theorem tyFld60_1 : eFld Go.Proofs.Try.prog 60 1 = some (12, 1) := by kernel_rfl
@[simp] theorem tyFld60_2 : eFld Go.Proofs.Try.prog 60 2 = some (53, 2) := by kernel_rfl
@[simp] theorem tyFld60_3 : eFld Go.Proofs.Try.prog 60 3 = some (54, 3) := by kernel_rfl
@[simp] theorem tyFld60_4 : eFld Go.Proofs.Try.prog 60 4 = some (5, 4) := by kernel_rfl
@[simp] theorem tyFld60_5 : eFld Go.Proofs.Try.prog 60 5 = some (5, 5) := by kernel_rfl
@[simp] theorem tyFld60_6 : eFld Go.Proofs.Try.prog 60 6 = some (55, 6) := by kernel_rfl
@[simp] theorem tyFld60_7 : eFld Go.Proofs.Try.prog 60 7 = some (56, 7) := by kernel_rfl
@[simp] theorem tyFld60_8 : eFld Go.Proofs.Try.prog 60 8 = some (57, 8) := by kernel_rfl
@[simp] theorem tyFld60_9 : eFld Go.Proofs.Try.prog 60 9 = some (58, 9) := by kernel_rfl
@[simp] theorem tyFld60_10 : eFld Go.Proofs.Try.prog 60 10 = some (59, 10) := by kernel_rfl
@[simp] theorem tyPl60 : ePl Go.Proofs.Try.prog 60 = some [(0, 1), (1, 1), (2, 1), (3, 1), (4, 1), (5, 1), (6, 1), (7, 1), (8, 1), (9, 1), (10, 1)] := by kernel_rfl
@[simp] theorem tyZero60 : eZero Go.Proofs.Try.prog 60 = some [.int .u64 0, .int .u64 0, .int .u32 0, .int .u8 0, .int .u8 0, .int .u8 0, .int .u8 0, .nilFunc, .pointer none, .int .i32 0, .int .i32 0] := by kernel_rfl
@[simp] theorem tySz61 : eSz Go.Proofs.Try.prog 61 = some 11 := by kernel_rfl
@[simp] theorem tyAgg61 : eAgg Go.Proofs.Try.prog 61 = some true := by kernel_rfl
@[simp] theorem tyStr61 : eStr Go.Proofs.Try.prog 61 = false := by kernel_rfl
@[simp] theorem tyFld61_0 : eFld Go.Proofs.Try.prog 61 0 = some (12, 0) := by kernel_rfl
@[simp] theorem tyFld61_1 : eFld Go.Proofs.Try.prog 61 1 = some (12, 1) := by kernel_rfl
@[simp] theorem tyFld61_2 : eFld Go.Proofs.Try.prog 61 2 = some (53, 2) := by kernel_rfl
@[simp] theorem tyFld61_3 : eFld Go.Proofs.Try.prog 61 3 = some (54, 3) := by kernel_rfl
@[simp] theorem tyFld61_4 : eFld Go.Proofs.Try.prog 61 4 = some (5, 4) := by kernel_rfl
@[simp] theorem tyFld61_5 : eFld Go.Proofs.Try.prog 61 5 = some (5, 5) := by kernel_rfl
@[simp] theorem tyFld61_6 : eFld Go.Proofs.Try.prog 61 6 = some (55, 6) := by kernel_rfl
@[simp] theorem tyFld61_7 : eFld Go.Proofs.Try.prog 61 7 = some (56, 7) := by kernel_rfl
@[simp] theorem tyFld61_8 : eFld Go.Proofs.Try.prog 61 8 = some (57, 8) := by kernel_rfl
@[simp] theorem tyFld61_9 : eFld Go.Proofs.Try.prog 61 9 = some (58, 9) := by kernel_rfl
@[simp] theorem tyFld61_10 : eFld Go.Proofs.Try.prog 61 10 = some (59, 10) := by kernel_rfl
@[simp] theorem tyPl61 : ePl Go.Proofs.Try.prog 61 = some [(0, 1), (1, 1), (2, 1), (3, 1), (4, 1), (5, 1), (6, 1), (7, 1), (8, 1), (9, 1), (10, 1)] := by kernel_rfl
@[simp] theorem tyZero61 : eZero Go.Proofs.Try.prog 61 = some [.int .u64 0, .int .u64 0, .int .u32 0, .int .u8 0, .int .u8 0, .int .u8 0, .int .u8 0, .nilFunc, .pointer none, .int .i32 0, .int .i32 0] := by kernel_rfl
@[simp] theorem tySz62 : eSz Go.Proofs.Try.prog 62 = some 1 := by kernel_rfl
@[simp] theorem tyAgg62 : eAgg Go.Proofs.Try.prog 62 = some false := by kernel_rfl
@[simp] theorem tyStr62 : eStr Go.Proofs.Try.prog 62 = false := by kernel_rfl
@[simp] theorem tyZero62 : eZero Go.Proofs.Try.prog 62 = some [.pointer none] := by kernel_rfl
end Go.Lw
