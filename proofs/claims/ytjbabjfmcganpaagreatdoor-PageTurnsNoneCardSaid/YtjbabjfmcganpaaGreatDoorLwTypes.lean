/-
  CLOSED FACTS ON THE TYPES OF THIS PROGRAM (printed by a program of ours; each is checked by the kernel).
-/
import Derived.Test.YtjbabjfmcganpaaGreatDoorLwRun
import Derived.Test.YtjbabjfmcganpaaGreatDoorRows
set_option linter.unusedSimpArgs false
set_option linter.unusedVariables false
namespace Go.Lw
@[simp] theorem tySz0 : eSz Go.Proofs.Tryz.prog 0 = some 1 := by kernel_rfl
@[simp] theorem tyAgg0 : eAgg Go.Proofs.Tryz.prog 0 = some false := by kernel_rfl
@[simp] theorem tyStr0 : eStr Go.Proofs.Tryz.prog 0 = false := by kernel_rfl
@[simp] theorem tySz1 : eSz Go.Proofs.Tryz.prog 1 = some 1 := by kernel_rfl
@[simp] theorem tyAgg1 : eAgg Go.Proofs.Tryz.prog 1 = some false := by kernel_rfl
@[simp] theorem tyStr1 : eStr Go.Proofs.Tryz.prog 1 = false := by kernel_rfl
@[simp] theorem tyZero1 : eZero Go.Proofs.Tryz.prog 1 = some [.nilFunc] := by kernel_rfl
@[simp] theorem tySz2 : eSz Go.Proofs.Tryz.prog 2 = some 1 := by kernel_rfl
@[simp] theorem tyAgg2 : eAgg Go.Proofs.Tryz.prog 2 = some false := by kernel_rfl
@[simp] theorem tyStr2 : eStr Go.Proofs.Tryz.prog 2 = false := by kernel_rfl
@[simp] theorem tyInt2 : eInt Go.Proofs.Tryz.prog 2 = some .i64 := by kernel_rfl
@[simp] theorem tyZero2 : eZero Go.Proofs.Tryz.prog 2 = some [.int .i64 0] := by kernel_rfl
@[simp] theorem tySz3 : eSz Go.Proofs.Tryz.prog 3 = some 1 := by kernel_rfl
@[simp] theorem tyAgg3 : eAgg Go.Proofs.Tryz.prog 3 = some false := by kernel_rfl
@[simp] theorem tyStr3 : eStr Go.Proofs.Tryz.prog 3 = false := by kernel_rfl
@[simp] theorem tyInt3 : eInt Go.Proofs.Tryz.prog 3 = some .i64 := by kernel_rfl
@[simp] theorem tyZero3 : eZero Go.Proofs.Tryz.prog 3 = some [.int .i64 0] := by kernel_rfl
@[simp] theorem tySz4 : eSz Go.Proofs.Tryz.prog 4 = some 1 := by kernel_rfl
@[simp] theorem tyAgg4 : eAgg Go.Proofs.Tryz.prog 4 = some false := by kernel_rfl
@[simp] theorem tyStr4 : eStr Go.Proofs.Tryz.prog 4 = false := by kernel_rfl
@[simp] theorem tyBool4 : eBool Go.Proofs.Tryz.prog 4 = true := by kernel_rfl
@[simp] theorem tyZero4 : eZero Go.Proofs.Tryz.prog 4 = some [.bool false] := by kernel_rfl
@[simp] theorem tySz5 : eSz Go.Proofs.Tryz.prog 5 = some 1 := by kernel_rfl
@[simp] theorem tyAgg5 : eAgg Go.Proofs.Tryz.prog 5 = some false := by kernel_rfl
@[simp] theorem tyStr5 : eStr Go.Proofs.Tryz.prog 5 = false := by kernel_rfl
@[simp] theorem tyInt5 : eInt Go.Proofs.Tryz.prog 5 = some .u8 := by kernel_rfl
@[simp] theorem tyZero5 : eZero Go.Proofs.Tryz.prog 5 = some [.int .u8 0] := by kernel_rfl
@[simp] theorem tySz6 : eSz Go.Proofs.Tryz.prog 6 = some 1 := by kernel_rfl
@[simp] theorem tyAgg6 : eAgg Go.Proofs.Tryz.prog 6 = some false := by kernel_rfl
@[simp] theorem tyStr6 : eStr Go.Proofs.Tryz.prog 6 = false := by kernel_rfl
@[simp] theorem tyInt6 : eInt Go.Proofs.Tryz.prog 6 = some .u8 := by kernel_rfl
@[simp] theorem tyZero6 : eZero Go.Proofs.Tryz.prog 6 = some [.int .u8 0] := by kernel_rfl
@[simp] theorem tySz7 : eSz Go.Proofs.Tryz.prog 7 = some 4 := by kernel_rfl
@[simp] theorem tyAgg7 : eAgg Go.Proofs.Tryz.prog 7 = some true := by kernel_rfl
@[simp] theorem tyStr7 : eStr Go.Proofs.Tryz.prog 7 = false := by kernel_rfl
@[simp] theorem tyFld7_0 : eFld Go.Proofs.Tryz.prog 7 0 = some (2, 0) := by kernel_rfl
@[simp] theorem tyFld7_1 : eFld Go.Proofs.Tryz.prog 7 1 = some (3, 1) := by kernel_rfl
@[simp] theorem tyFld7_2 : eFld Go.Proofs.Tryz.prog 7 2 = some (4, 2) := by kernel_rfl
@[simp] theorem tyFld7_3 : eFld Go.Proofs.Tryz.prog 7 3 = some (6, 3) := by kernel_rfl
@[simp] theorem tyPl7 : ePl Go.Proofs.Tryz.prog 7 = some [(0, 1), (1, 1), (2, 1), (3, 1)] := by kernel_rfl
@[simp] theorem tyZero7 : eZero Go.Proofs.Tryz.prog 7 = some [.int .i64 0, .int .i64 0, .bool false, .int .u8 0] := by kernel_rfl
@[simp] theorem tySz9 : eSz Go.Proofs.Tryz.prog 9 = some 1 := by kernel_rfl
@[simp] theorem tyAgg9 : eAgg Go.Proofs.Tryz.prog 9 = some false := by kernel_rfl
@[simp] theorem tyStr9 : eStr Go.Proofs.Tryz.prog 9 = true := by kernel_rfl
@[simp] theorem tyInt9 : eInt Go.Proofs.Tryz.prog 9 = none := by kernel_rfl
@[simp] theorem tyZero9 : eZero Go.Proofs.Tryz.prog 9 = some [.string .empty] := by kernel_rfl
@[simp] theorem tySz20 : eSz Go.Proofs.Tryz.prog 20 = some 1 := by kernel_rfl
@[simp] theorem tyAgg20 : eAgg Go.Proofs.Tryz.prog 20 = some false := by kernel_rfl
@[simp] theorem tyStr20 : eStr Go.Proofs.Tryz.prog 20 = false := by kernel_rfl
@[simp] theorem tyZero20 : eZero Go.Proofs.Tryz.prog 20 = some [.nilIface] := by kernel_rfl
@[simp] theorem tySz21 : eSz Go.Proofs.Tryz.prog 21 = some 1 := by kernel_rfl
@[simp] theorem tyAgg21 : eAgg Go.Proofs.Tryz.prog 21 = some false := by kernel_rfl
@[simp] theorem tyStr21 : eStr Go.Proofs.Tryz.prog 21 = false := by kernel_rfl
@[simp] theorem tyInt21 : eInt Go.Proofs.Tryz.prog 21 = some .i32 := by kernel_rfl
@[simp] theorem tyZero21 : eZero Go.Proofs.Tryz.prog 21 = some [.int .i32 0] := by kernel_rfl
@[simp] theorem tySz22 : eSz Go.Proofs.Tryz.prog 22 = some 1 := by kernel_rfl
@[simp] theorem tyAgg22 : eAgg Go.Proofs.Tryz.prog 22 = some false := by kernel_rfl
@[simp] theorem tyElem22 : eElem Go.Proofs.Tryz.prog 22 = some (5, 1) := by kernel_rfl
@[simp] theorem tyBytes5 : eBytes Go.Proofs.Tryz.prog 5 = some 1 := by kernel_rfl
@[simp] theorem tyStr22 : eStr Go.Proofs.Tryz.prog 22 = false := by kernel_rfl
@[simp] theorem tyZero22 : eZero Go.Proofs.Tryz.prog 22 = some [.slice none 0 0] := by kernel_rfl
@[simp] theorem tySz24 : eSz Go.Proofs.Tryz.prog 24 = some 8 := by kernel_rfl
@[simp] theorem tyAgg24 : eAgg Go.Proofs.Tryz.prog 24 = some true := by kernel_rfl
@[simp] theorem tyStr24 : eStr Go.Proofs.Tryz.prog 24 = false := by kernel_rfl
@[simp] theorem tyFld24_0 : eFld Go.Proofs.Tryz.prog 24 0 = some (9, 0) := by kernel_rfl
@[simp] theorem tyFld24_1 : eFld Go.Proofs.Tryz.prog 24 1 = some (9, 1) := by kernel_rfl
@[simp] theorem tyFld24_2 : eFld Go.Proofs.Tryz.prog 24 2 = some (9, 2) := by kernel_rfl
@[simp] theorem tyFld24_3 : eFld Go.Proofs.Tryz.prog 24 3 = some (9, 3) := by kernel_rfl
@[simp] theorem tyFld24_4 : eFld Go.Proofs.Tryz.prog 24 4 = some (9, 4) := by kernel_rfl
@[simp] theorem tyFld24_5 : eFld Go.Proofs.Tryz.prog 24 5 = some (4, 5) := by kernel_rfl
@[simp] theorem tyFld24_6 : eFld Go.Proofs.Tryz.prog 24 6 = some (9, 6) := by kernel_rfl
@[simp] theorem tyFld24_7 : eFld Go.Proofs.Tryz.prog 24 7 = some (4, 7) := by kernel_rfl
@[simp] theorem tyPl24 : ePl Go.Proofs.Tryz.prog 24 = some [(0, 1), (1, 1), (2, 1), (3, 1), (4, 1), (5, 1), (6, 1), (7, 1)] := by kernel_rfl
@[simp] theorem tyZero24 : eZero Go.Proofs.Tryz.prog 24 = some [.string .empty, .string .empty, .string .empty, .string .empty, .string .empty, .bool false, .string .empty, .bool false] := by kernel_rfl
@[simp] theorem tySz25 : eSz Go.Proofs.Tryz.prog 25 = some 1 := by kernel_rfl
@[simp] theorem tyAgg25 : eAgg Go.Proofs.Tryz.prog 25 = some false := by kernel_rfl
@[simp] theorem tyElem25 : eElem Go.Proofs.Tryz.prog 25 = some (33, 13) := by kernel_rfl
@[simp] theorem tyBytes33 : eBytes Go.Proofs.Tryz.prog 33 = some 160 := by kernel_rfl
@[simp] theorem tyStr25 : eStr Go.Proofs.Tryz.prog 25 = false := by kernel_rfl
@[simp] theorem tyZero25 : eZero Go.Proofs.Tryz.prog 25 = some [.slice none 0 0] := by kernel_rfl
@[simp] theorem tySz26 : eSz Go.Proofs.Tryz.prog 26 = some 1 := by kernel_rfl
@[simp] theorem tyAgg26 : eAgg Go.Proofs.Tryz.prog 26 = some false := by kernel_rfl
@[simp] theorem tyStr26 : eStr Go.Proofs.Tryz.prog 26 = false := by kernel_rfl
@[simp] theorem tyInt26 : eInt Go.Proofs.Tryz.prog 26 = some .i64 := by kernel_rfl
@[simp] theorem tyZero26 : eZero Go.Proofs.Tryz.prog 26 = some [.int .i64 0] := by kernel_rfl
@[simp] theorem tySz27 : eSz Go.Proofs.Tryz.prog 27 = some 1 := by kernel_rfl
@[simp] theorem tyAgg27 : eAgg Go.Proofs.Tryz.prog 27 = some false := by kernel_rfl
@[simp] theorem tyStr27 : eStr Go.Proofs.Tryz.prog 27 = false := by kernel_rfl
@[simp] theorem tySz31 : eSz Go.Proofs.Tryz.prog 31 = some 2 := by kernel_rfl
@[simp] theorem tyAgg31 : eAgg Go.Proofs.Tryz.prog 31 = some true := by kernel_rfl
@[simp] theorem tyStr31 : eStr Go.Proofs.Tryz.prog 31 = false := by kernel_rfl
@[simp] theorem tyFld31_0 : eFld Go.Proofs.Tryz.prog 31 0 = some (3, 0) := by kernel_rfl
@[simp] theorem tyFld31_1 : eFld Go.Proofs.Tryz.prog 31 1 = some (3, 1) := by kernel_rfl
@[simp] theorem tyPl31 : ePl Go.Proofs.Tryz.prog 31 = some [(0, 1), (1, 1)] := by kernel_rfl
@[simp] theorem tyZero31 : eZero Go.Proofs.Tryz.prog 31 = some [.int .i64 0, .int .i64 0] := by kernel_rfl
@[simp] theorem tySz33 : eSz Go.Proofs.Tryz.prog 33 = some 13 := by kernel_rfl
@[simp] theorem tyAgg33 : eAgg Go.Proofs.Tryz.prog 33 = some true := by kernel_rfl
@[simp] theorem tyStr33 : eStr Go.Proofs.Tryz.prog 33 = false := by kernel_rfl
@[simp] theorem tyFld33_0 : eFld Go.Proofs.Tryz.prog 33 0 = some (3, 0) := by kernel_rfl
@[simp] theorem tyFld33_1 : eFld Go.Proofs.Tryz.prog 33 1 = some (9, 1) := by kernel_rfl
@[simp] theorem tyFld33_2 : eFld Go.Proofs.Tryz.prog 33 2 = some (31, 2) := by kernel_rfl
@[simp] theorem tyFld33_3 : eFld Go.Proofs.Tryz.prog 33 3 = some (24, 4) := by kernel_rfl
@[simp] theorem tyFld33_4 : eFld Go.Proofs.Tryz.prog 33 4 = some (4, 12) := by kernel_rfl
@[simp] theorem tyPl33 : ePl Go.Proofs.Tryz.prog 33 = some [(0, 1), (1, 1), (2, 2), (4, 8), (12, 1)] := by kernel_rfl
@[simp] theorem tyZero33 : eZero Go.Proofs.Tryz.prog 33 = some [.int .i64 0, .string .empty, .int .i64 0, .int .i64 0, .string .empty, .string .empty, .string .empty, .string .empty, .string .empty, .bool false, .string .empty, .bool false, .bool false] := by kernel_rfl
@[simp] theorem tySz34 : eSz Go.Proofs.Tryz.prog 34 = some 1 := by kernel_rfl
@[simp] theorem tyAgg34 : eAgg Go.Proofs.Tryz.prog 34 = some false := by kernel_rfl
@[simp] theorem tyStr34 : eStr Go.Proofs.Tryz.prog 34 = false := by kernel_rfl
@[simp] theorem tySz37 : eSz Go.Proofs.Tryz.prog 37 = some 1 := by kernel_rfl
@[simp] theorem tyAgg37 : eAgg Go.Proofs.Tryz.prog 37 = some false := by kernel_rfl
@[simp] theorem tyElem37 : eElem Go.Proofs.Tryz.prog 37 = some (92, 2) := by kernel_rfl
@[simp] theorem tyBytes92 : eBytes Go.Proofs.Tryz.prog 92 = some 32 := by kernel_rfl
@[simp] theorem tyStr37 : eStr Go.Proofs.Tryz.prog 37 = false := by kernel_rfl
@[simp] theorem tyZero37 : eZero Go.Proofs.Tryz.prog 37 = some [.slice none 0 0] := by kernel_rfl
@[simp] theorem tySz38 : eSz Go.Proofs.Tryz.prog 38 = some 1 := by kernel_rfl
@[simp] theorem tyAgg38 : eAgg Go.Proofs.Tryz.prog 38 = some false := by kernel_rfl
@[simp] theorem tyStr38 : eStr Go.Proofs.Tryz.prog 38 = false := by kernel_rfl
@[simp] theorem tySz42 : eSz Go.Proofs.Tryz.prog 42 = some 1 := by kernel_rfl
@[simp] theorem tyAgg42 : eAgg Go.Proofs.Tryz.prog 42 = some false := by kernel_rfl
@[simp] theorem tyElem42 : eElem Go.Proofs.Tryz.prog 42 = some (96, 5) := by kernel_rfl
@[simp] theorem tyBytes96 : eBytes Go.Proofs.Tryz.prog 96 = some 64 := by kernel_rfl
@[simp] theorem tyStr42 : eStr Go.Proofs.Tryz.prog 42 = false := by kernel_rfl
@[simp] theorem tyZero42 : eZero Go.Proofs.Tryz.prog 42 = some [.slice none 0 0] := by kernel_rfl
@[simp] theorem tySz43 : eSz Go.Proofs.Tryz.prog 43 = some 1 := by kernel_rfl
@[simp] theorem tyAgg43 : eAgg Go.Proofs.Tryz.prog 43 = some false := by kernel_rfl
@[simp] theorem tyStr43 : eStr Go.Proofs.Tryz.prog 43 = false := by kernel_rfl
@[simp] theorem tySz47 : eSz Go.Proofs.Tryz.prog 47 = some 1 := by kernel_rfl
@[simp] theorem tyAgg47 : eAgg Go.Proofs.Tryz.prog 47 = some false := by kernel_rfl
@[simp] theorem tyStr47 : eStr Go.Proofs.Tryz.prog 47 = false := by kernel_rfl
@[simp] theorem tyPtr47 : ePtr Go.Proofs.Tryz.prog 47 = true := by kernel_rfl
@[simp] theorem tyZero47 : eZero Go.Proofs.Tryz.prog 47 = some [.pointer none] := by kernel_rfl
@[simp] theorem tySz49 : eSz Go.Proofs.Tryz.prog 49 = some 17 := by kernel_rfl
@[simp] theorem tyAgg49 : eAgg Go.Proofs.Tryz.prog 49 = some true := by kernel_rfl
@[simp] theorem tyStr49 : eStr Go.Proofs.Tryz.prog 49 = false := by kernel_rfl
@[simp] theorem tyFld49_0 : eFld Go.Proofs.Tryz.prog 49 0 = some (24, 0) := by kernel_rfl
@[simp] theorem tyFld49_1 : eFld Go.Proofs.Tryz.prog 49 1 = some (24, 8) := by kernel_rfl
@[simp] theorem tyFld49_2 : eFld Go.Proofs.Tryz.prog 49 2 = some (25, 16) := by kernel_rfl
@[simp] theorem tyPl49 : ePl Go.Proofs.Tryz.prog 49 = some [(0, 8), (8, 8), (16, 1)] := by kernel_rfl
@[simp] theorem tyZero49 : eZero Go.Proofs.Tryz.prog 49 = some [.string .empty, .string .empty, .string .empty, .string .empty, .string .empty, .bool false, .string .empty, .bool false, .string .empty, .string .empty, .string .empty, .string .empty, .string .empty, .bool false, .string .empty, .bool false, .slice none 0 0] := by kernel_rfl
@[simp] theorem tySz50 : eSz Go.Proofs.Tryz.prog 50 = some 1 := by kernel_rfl
@[simp] theorem tyAgg50 : eAgg Go.Proofs.Tryz.prog 50 = some false := by kernel_rfl
@[simp] theorem tyElem50 : eElem Go.Proofs.Tryz.prog 50 = some (31, 2) := by kernel_rfl
@[simp] theorem tyBytes31 : eBytes Go.Proofs.Tryz.prog 31 = some 16 := by kernel_rfl
@[simp] theorem tyStr50 : eStr Go.Proofs.Tryz.prog 50 = false := by kernel_rfl
@[simp] theorem tyZero50 : eZero Go.Proofs.Tryz.prog 50 = some [.slice none 0 0] := by kernel_rfl
@[simp] theorem tySz54 : eSz Go.Proofs.Tryz.prog 54 = some 1 := by kernel_rfl
@[simp] theorem tyAgg54 : eAgg Go.Proofs.Tryz.prog 54 = some false := by kernel_rfl
@[simp] theorem tyStr54 : eStr Go.Proofs.Tryz.prog 54 = false := by kernel_rfl
@[simp] theorem tyPtr54 : ePtr Go.Proofs.Tryz.prog 54 = true := by kernel_rfl
@[simp] theorem tyZero54 : eZero Go.Proofs.Tryz.prog 54 = some [.pointer none] := by kernel_rfl
@[simp] theorem tySz56 : eSz Go.Proofs.Tryz.prog 56 = some 2 := by kernel_rfl
@[simp] theorem tyAgg56 : eAgg Go.Proofs.Tryz.prog 56 = some true := by kernel_rfl
@[simp] theorem tyStr56 : eStr Go.Proofs.Tryz.prog 56 = false := by kernel_rfl
@[simp] theorem tyFld56_0 : eFld Go.Proofs.Tryz.prog 56 0 = some (37, 0) := by kernel_rfl
@[simp] theorem tyFld56_1 : eFld Go.Proofs.Tryz.prog 56 1 = some (3, 1) := by kernel_rfl
@[simp] theorem tyPl56 : ePl Go.Proofs.Tryz.prog 56 = some [(0, 1), (1, 1)] := by kernel_rfl
@[simp] theorem tyZero56 : eZero Go.Proofs.Tryz.prog 56 = some [.slice none 0 0, .int .i64 0] := by kernel_rfl
@[simp] theorem tySz57 : eSz Go.Proofs.Tryz.prog 57 = some 1 := by kernel_rfl
@[simp] theorem tyAgg57 : eAgg Go.Proofs.Tryz.prog 57 = some false := by kernel_rfl
@[simp] theorem tyStr57 : eStr Go.Proofs.Tryz.prog 57 = false := by kernel_rfl
@[simp] theorem tySz59 : eSz Go.Proofs.Tryz.prog 59 = some 1 := by kernel_rfl
@[simp] theorem tyAgg59 : eAgg Go.Proofs.Tryz.prog 59 = some false := by kernel_rfl
@[simp] theorem tyElem59 : eElem Go.Proofs.Tryz.prog 59 = some (64, 3) := by kernel_rfl
@[simp] theorem tyBytes64 : eBytes Go.Proofs.Tryz.prog 64 = some 32 := by kernel_rfl
@[simp] theorem tyStr59 : eStr Go.Proofs.Tryz.prog 59 = false := by kernel_rfl
@[simp] theorem tyZero59 : eZero Go.Proofs.Tryz.prog 59 = some [.slice none 0 0] := by kernel_rfl
@[simp] theorem tySz61 : eSz Go.Proofs.Tryz.prog 61 = some 1 := by kernel_rfl
@[simp] theorem tyAgg61 : eAgg Go.Proofs.Tryz.prog 61 = some false := by kernel_rfl
@[simp] theorem tyStr61 : eStr Go.Proofs.Tryz.prog 61 = false := by kernel_rfl
@[simp] theorem tySz64 : eSz Go.Proofs.Tryz.prog 64 = some 3 := by kernel_rfl
@[simp] theorem tyAgg64 : eAgg Go.Proofs.Tryz.prog 64 = some true := by kernel_rfl
@[simp] theorem tyStr64 : eStr Go.Proofs.Tryz.prog 64 = false := by kernel_rfl
@[simp] theorem tyFld64_0 : eFld Go.Proofs.Tryz.prog 64 0 = some (31, 0) := by kernel_rfl
@[simp] theorem tyFld64_1 : eFld Go.Proofs.Tryz.prog 64 1 = some (9, 2) := by kernel_rfl
@[simp] theorem tyPl64 : ePl Go.Proofs.Tryz.prog 64 = some [(0, 2), (2, 1)] := by kernel_rfl
@[simp] theorem tyZero64 : eZero Go.Proofs.Tryz.prog 64 = some [.int .i64 0, .int .i64 0, .string .empty] := by kernel_rfl
@[simp] theorem tySz65 : eSz Go.Proofs.Tryz.prog 65 = some 1 := by kernel_rfl
@[simp] theorem tyAgg65 : eAgg Go.Proofs.Tryz.prog 65 = some false := by kernel_rfl
@[simp] theorem tyStr65 : eStr Go.Proofs.Tryz.prog 65 = false := by kernel_rfl
@[simp] theorem tySz68 : eSz Go.Proofs.Tryz.prog 68 = some 1 := by kernel_rfl
@[simp] theorem tyAgg68 : eAgg Go.Proofs.Tryz.prog 68 = some false := by kernel_rfl
@[simp] theorem tyStr68 : eStr Go.Proofs.Tryz.prog 68 = false := by kernel_rfl
@[simp] theorem tyPtr68 : ePtr Go.Proofs.Tryz.prog 68 = true := by kernel_rfl
@[simp] theorem tyZero68 : eZero Go.Proofs.Tryz.prog 68 = some [.pointer none] := by kernel_rfl
@[simp] theorem tySz70 : eSz Go.Proofs.Tryz.prog 70 = some 2 := by kernel_rfl
@[simp] theorem tyAgg70 : eAgg Go.Proofs.Tryz.prog 70 = some true := by kernel_rfl
@[simp] theorem tyStr70 : eStr Go.Proofs.Tryz.prog 70 = false := by kernel_rfl
@[simp] theorem tyFld70_0 : eFld Go.Proofs.Tryz.prog 70 0 = some (68, 0) := by kernel_rfl
@[simp] theorem tyFld70_1 : eFld Go.Proofs.Tryz.prog 70 1 = some (22, 1) := by kernel_rfl
@[simp] theorem tyPl70 : ePl Go.Proofs.Tryz.prog 70 = some [(0, 1), (1, 1)] := by kernel_rfl
@[simp] theorem tyZero70 : eZero Go.Proofs.Tryz.prog 70 = some [.pointer none, .slice none 0 0] := by kernel_rfl
@[simp] theorem tySz71 : eSz Go.Proofs.Tryz.prog 71 = some 1 := by kernel_rfl
@[simp] theorem tyAgg71 : eAgg Go.Proofs.Tryz.prog 71 = some false := by kernel_rfl
@[simp] theorem tyElem71 : eElem Go.Proofs.Tryz.prog 71 = some (73, 2) := by kernel_rfl
@[simp] theorem tyBytes73 : eBytes Go.Proofs.Tryz.prog 73 = some 32 := by kernel_rfl
@[simp] theorem tyStr71 : eStr Go.Proofs.Tryz.prog 71 = false := by kernel_rfl
@[simp] theorem tyZero71 : eZero Go.Proofs.Tryz.prog 71 = some [.slice none 0 0] := by kernel_rfl
@[simp] theorem tySz73 : eSz Go.Proofs.Tryz.prog 73 = some 2 := by kernel_rfl
@[simp] theorem tyAgg73 : eAgg Go.Proofs.Tryz.prog 73 = some true := by kernel_rfl
@[simp] theorem tyStr73 : eStr Go.Proofs.Tryz.prog 73 = false := by kernel_rfl
@[simp] theorem tyArr73 : eArr Go.Proofs.Tryz.prog 73 = some (9, 2, 1) := by kernel_rfl
@[simp] theorem tyPl73 : ePl Go.Proofs.Tryz.prog 73 = some [(0, 1), (1, 1)] := by kernel_rfl
@[simp] theorem tyZero73 : eZero Go.Proofs.Tryz.prog 73 = some [.string .empty, .string .empty] := by kernel_rfl
@[simp] theorem tySz76 : eSz Go.Proofs.Tryz.prog 76 = some 1 := by kernel_rfl
@[simp] theorem tyAgg76 : eAgg Go.Proofs.Tryz.prog 76 = some false := by kernel_rfl
@[simp] theorem tyStr76 : eStr Go.Proofs.Tryz.prog 76 = false := by kernel_rfl
@[simp] theorem tyZero76 : eZero Go.Proofs.Tryz.prog 76 = some [.nilIface] := by kernel_rfl
@[simp] theorem tySz77 : eSz Go.Proofs.Tryz.prog 77 = some 1 := by kernel_rfl
@[simp] theorem tyAgg77 : eAgg Go.Proofs.Tryz.prog 77 = some false := by kernel_rfl
@[simp] theorem tyStr77 : eStr Go.Proofs.Tryz.prog 77 = false := by kernel_rfl
@[simp] theorem tySz84 : eSz Go.Proofs.Tryz.prog 84 = some 1 := by kernel_rfl
@[simp] theorem tyAgg84 : eAgg Go.Proofs.Tryz.prog 84 = some false := by kernel_rfl
@[simp] theorem tyStr84 : eStr Go.Proofs.Tryz.prog 84 = false := by kernel_rfl
@[simp] theorem tyPtr84 : ePtr Go.Proofs.Tryz.prog 84 = true := by kernel_rfl
@[simp] theorem tyZero84 : eZero Go.Proofs.Tryz.prog 84 = some [.pointer none] := by kernel_rfl
@[simp] theorem tySz86 : eSz Go.Proofs.Tryz.prog 86 = some 2 := by kernel_rfl
@[simp] theorem tyAgg86 : eAgg Go.Proofs.Tryz.prog 86 = some true := by kernel_rfl
@[simp] theorem tyStr86 : eStr Go.Proofs.Tryz.prog 86 = false := by kernel_rfl
@[simp] theorem tyFld86_0 : eFld Go.Proofs.Tryz.prog 86 0 = some (9, 0) := by kernel_rfl
@[simp] theorem tyFld86_1 : eFld Go.Proofs.Tryz.prog 86 1 = some (3, 1) := by kernel_rfl
@[simp] theorem tyPl86 : ePl Go.Proofs.Tryz.prog 86 = some [(0, 1), (1, 1)] := by kernel_rfl
@[simp] theorem tyZero86 : eZero Go.Proofs.Tryz.prog 86 = some [.string .empty, .int .i64 0] := by kernel_rfl
@[simp] theorem tySz87 : eSz Go.Proofs.Tryz.prog 87 = some 1 := by kernel_rfl
@[simp] theorem tyAgg87 : eAgg Go.Proofs.Tryz.prog 87 = some false := by kernel_rfl
@[simp] theorem tyStr87 : eStr Go.Proofs.Tryz.prog 87 = false := by kernel_rfl
@[simp] theorem tySz89 : eSz Go.Proofs.Tryz.prog 89 = some 1 := by kernel_rfl
@[simp] theorem tyAgg89 : eAgg Go.Proofs.Tryz.prog 89 = some false := by kernel_rfl
@[simp] theorem tyStr89 : eStr Go.Proofs.Tryz.prog 89 = false := by kernel_rfl
@[simp] theorem tySz92 : eSz Go.Proofs.Tryz.prog 92 = some 2 := by kernel_rfl
@[simp] theorem tyAgg92 : eAgg Go.Proofs.Tryz.prog 92 = some true := by kernel_rfl
@[simp] theorem tyStr92 : eStr Go.Proofs.Tryz.prog 92 = false := by kernel_rfl
@[simp] theorem tyFld92_0 : eFld Go.Proofs.Tryz.prog 92 0 = some (9, 0) := by kernel_rfl
@[simp] theorem tyFld92_1 : eFld Go.Proofs.Tryz.prog 92 1 = some (9, 1) := by kernel_rfl
@[simp] theorem tyPl92 : ePl Go.Proofs.Tryz.prog 92 = some [(0, 1), (1, 1)] := by kernel_rfl
@[simp] theorem tyZero92 : eZero Go.Proofs.Tryz.prog 92 = some [.string .empty, .string .empty] := by kernel_rfl
@[simp] theorem tySz94 : eSz Go.Proofs.Tryz.prog 94 = some 1 := by kernel_rfl
@[simp] theorem tyAgg94 : eAgg Go.Proofs.Tryz.prog 94 = some false := by kernel_rfl
@[simp] theorem tyElem94 : eElem Go.Proofs.Tryz.prog 94 = some (99, 5) := by kernel_rfl
@[simp] theorem tyBytes99 : eBytes Go.Proofs.Tryz.prog 99 = some 56 := by kernel_rfl
@[simp] theorem tyStr94 : eStr Go.Proofs.Tryz.prog 94 = false := by kernel_rfl
@[simp] theorem tyZero94 : eZero Go.Proofs.Tryz.prog 94 = some [.slice none 0 0] := by kernel_rfl
@[simp] theorem tySz96 : eSz Go.Proofs.Tryz.prog 96 = some 5 := by kernel_rfl
@[simp] theorem tyAgg96 : eAgg Go.Proofs.Tryz.prog 96 = some true := by kernel_rfl
@[simp] theorem tyStr96 : eStr Go.Proofs.Tryz.prog 96 = false := by kernel_rfl
@[simp] theorem tyFld96_0 : eFld Go.Proofs.Tryz.prog 96 0 = some (3, 0) := by kernel_rfl
@[simp] theorem tyFld96_1 : eFld Go.Proofs.Tryz.prog 96 1 = some (31, 1) := by kernel_rfl
@[simp] theorem tyFld96_2 : eFld Go.Proofs.Tryz.prog 96 2 = some (9, 3) := by kernel_rfl
@[simp] theorem tyFld96_3 : eFld Go.Proofs.Tryz.prog 96 3 = some (94, 4) := by kernel_rfl
@[simp] theorem tyPl96 : ePl Go.Proofs.Tryz.prog 96 = some [(0, 1), (1, 2), (3, 1), (4, 1)] := by kernel_rfl
@[simp] theorem tyZero96 : eZero Go.Proofs.Tryz.prog 96 = some [.int .i64 0, .int .i64 0, .int .i64 0, .string .empty, .slice none 0 0] := by kernel_rfl
@[simp] theorem tySz99 : eSz Go.Proofs.Tryz.prog 99 = some 5 := by kernel_rfl
@[simp] theorem tyAgg99 : eAgg Go.Proofs.Tryz.prog 99 = some true := by kernel_rfl
@[simp] theorem tyStr99 : eStr Go.Proofs.Tryz.prog 99 = false := by kernel_rfl
@[simp] theorem tyFld99_0 : eFld Go.Proofs.Tryz.prog 99 0 = some (9, 0) := by kernel_rfl
@[simp] theorem tyFld99_1 : eFld Go.Proofs.Tryz.prog 99 1 = some (9, 1) := by kernel_rfl
@[simp] theorem tyFld99_2 : eFld Go.Proofs.Tryz.prog 99 2 = some (31, 2) := by kernel_rfl
@[simp] theorem tyFld99_3 : eFld Go.Proofs.Tryz.prog 99 3 = some (4, 4) := by kernel_rfl
@[simp] theorem tyPl99 : ePl Go.Proofs.Tryz.prog 99 = some [(0, 1), (1, 1), (2, 2), (4, 1)] := by kernel_rfl
@[simp] theorem tyZero99 : eZero Go.Proofs.Tryz.prog 99 = some [.string .empty, .string .empty, .int .i64 0, .int .i64 0, .bool false] := by kernel_rfl
@[simp] theorem tySz105 : eSz Go.Proofs.Tryz.prog 105 = some 1 := by kernel_rfl
@[simp] theorem tyAgg105 : eAgg Go.Proofs.Tryz.prog 105 = some false := by kernel_rfl
@[simp] theorem tyStr105 : eStr Go.Proofs.Tryz.prog 105 = false := by kernel_rfl
@[simp] theorem tySz108 : eSz Go.Proofs.Tryz.prog 108 = some 1 := by kernel_rfl
@[simp] theorem tyAgg108 : eAgg Go.Proofs.Tryz.prog 108 = some false := by kernel_rfl
@[simp] theorem tyStr108 : eStr Go.Proofs.Tryz.prog 108 = false := by kernel_rfl
@[simp] theorem tyZero108 : eZero Go.Proofs.Tryz.prog 108 = some [.nilFunc] := by kernel_rfl
@[simp] theorem tySz109 : eSz Go.Proofs.Tryz.prog 109 = some 1 := by kernel_rfl
@[simp] theorem tyAgg109 : eAgg Go.Proofs.Tryz.prog 109 = some false := by kernel_rfl
@[simp] theorem tyStr109 : eStr Go.Proofs.Tryz.prog 109 = false := by kernel_rfl
@[simp] theorem tySz112 : eSz Go.Proofs.Tryz.prog 112 = some 1 := by kernel_rfl
@[simp] theorem tyAgg112 : eAgg Go.Proofs.Tryz.prog 112 = some false := by kernel_rfl
@[simp] theorem tyStr112 : eStr Go.Proofs.Tryz.prog 112 = false := by kernel_rfl
@[simp] theorem tyPtr112 : ePtr Go.Proofs.Tryz.prog 112 = true := by kernel_rfl
@[simp] theorem tyZero112 : eZero Go.Proofs.Tryz.prog 112 = some [.pointer none] := by kernel_rfl
@[simp] theorem tySz113 : eSz Go.Proofs.Tryz.prog 113 = some 1 := by kernel_rfl
@[simp] theorem tyAgg113 : eAgg Go.Proofs.Tryz.prog 113 = some false := by kernel_rfl
@[simp] theorem tyElem113 : eElem Go.Proofs.Tryz.prog 113 = some (9, 1) := by kernel_rfl
@[simp] theorem tyBytes9 : eBytes Go.Proofs.Tryz.prog 9 = some 16 := by kernel_rfl
@[simp] theorem tyStr113 : eStr Go.Proofs.Tryz.prog 113 = false := by kernel_rfl
@[simp] theorem tyZero113 : eZero Go.Proofs.Tryz.prog 113 = some [.slice none 0 0] := by kernel_rfl
@[simp] theorem tySz118 : eSz Go.Proofs.Tryz.prog 118 = some 1 := by kernel_rfl
@[simp] theorem tyAgg118 : eAgg Go.Proofs.Tryz.prog 118 = some false := by kernel_rfl
@[simp] theorem tyStr118 : eStr Go.Proofs.Tryz.prog 118 = false := by kernel_rfl
@[simp] theorem tyZero118 : eZero Go.Proofs.Tryz.prog 118 = some [.nilFunc] := by kernel_rfl
@[simp] theorem tySz119 : eSz Go.Proofs.Tryz.prog 119 = some 1 := by kernel_rfl
@[simp] theorem tyAgg119 : eAgg Go.Proofs.Tryz.prog 119 = some false := by kernel_rfl
@[simp] theorem tyStr119 : eStr Go.Proofs.Tryz.prog 119 = false := by kernel_rfl
@[simp] theorem tySz125 : eSz Go.Proofs.Tryz.prog 125 = some 1 := by kernel_rfl
@[simp] theorem tyAgg125 : eAgg Go.Proofs.Tryz.prog 125 = some false := by kernel_rfl
@[simp] theorem tyStr125 : eStr Go.Proofs.Tryz.prog 125 = false := by kernel_rfl
@[simp] theorem tyZero125 : eZero Go.Proofs.Tryz.prog 125 = some [.nilFunc] := by kernel_rfl
@[simp] theorem tySz126 : eSz Go.Proofs.Tryz.prog 126 = some 1 := by kernel_rfl
@[simp] theorem tyAgg126 : eAgg Go.Proofs.Tryz.prog 126 = some false := by kernel_rfl
@[simp] theorem tyStr126 : eStr Go.Proofs.Tryz.prog 126 = false := by kernel_rfl
@[simp] theorem tyInt126 : eInt Go.Proofs.Tryz.prog 126 = some .u64 := by kernel_rfl
@[simp] theorem tyZero126 : eZero Go.Proofs.Tryz.prog 126 = some [.int .u64 0] := by kernel_rfl
@[simp] theorem tySz129 : eSz Go.Proofs.Tryz.prog 129 = some 1 := by kernel_rfl
@[simp] theorem tyAgg129 : eAgg Go.Proofs.Tryz.prog 129 = some false := by kernel_rfl
@[simp] theorem tyStr129 : eStr Go.Proofs.Tryz.prog 129 = false := by kernel_rfl
@[simp] theorem tyZero129 : eZero Go.Proofs.Tryz.prog 129 = some [.nilFunc] := by kernel_rfl
@[simp] theorem tySz130 : eSz Go.Proofs.Tryz.prog 130 = some 1 := by kernel_rfl
@[simp] theorem tyAgg130 : eAgg Go.Proofs.Tryz.prog 130 = some false := by kernel_rfl
@[simp] theorem tyStr130 : eStr Go.Proofs.Tryz.prog 130 = false := by kernel_rfl
@[simp] theorem tySz132 : eSz Go.Proofs.Tryz.prog 132 = some 1 := by kernel_rfl
@[simp] theorem tyAgg132 : eAgg Go.Proofs.Tryz.prog 132 = some false := by kernel_rfl
@[simp] theorem tyStr132 : eStr Go.Proofs.Tryz.prog 132 = false := by kernel_rfl
@[simp] theorem tySz134 : eSz Go.Proofs.Tryz.prog 134 = some 1 := by kernel_rfl
@[simp] theorem tyAgg134 : eAgg Go.Proofs.Tryz.prog 134 = some false := by kernel_rfl
@[simp] theorem tyStr134 : eStr Go.Proofs.Tryz.prog 134 = false := by kernel_rfl
@[simp] theorem tyZero134 : eZero Go.Proofs.Tryz.prog 134 = some [.pointer none] := by kernel_rfl
@[simp] theorem tySz139 : eSz Go.Proofs.Tryz.prog 139 = some 256 := by kernel_rfl
@[simp] theorem tyAgg139 : eAgg Go.Proofs.Tryz.prog 139 = some true := by kernel_rfl
@[simp] theorem tyStr139 : eStr Go.Proofs.Tryz.prog 139 = false := by kernel_rfl
@[simp] theorem tyArr139 : eArr Go.Proofs.Tryz.prog 139 = some (4, 256, 1) := by kernel_rfl
@[simp] theorem tySz140 : eSz Go.Proofs.Tryz.prog 140 = some 1 := by kernel_rfl
@[simp] theorem tyAgg140 : eAgg Go.Proofs.Tryz.prog 140 = some false := by kernel_rfl
@[simp] theorem tyStr140 : eStr Go.Proofs.Tryz.prog 140 = false := by kernel_rfl
@[simp] theorem tySz143 : eSz Go.Proofs.Tryz.prog 143 = some 1 := by kernel_rfl
@[simp] theorem tyAgg143 : eAgg Go.Proofs.Tryz.prog 143 = some false := by kernel_rfl
@[simp] theorem tyStr143 : eStr Go.Proofs.Tryz.prog 143 = false := by kernel_rfl
@[simp] theorem tyPtr143 : ePtr Go.Proofs.Tryz.prog 143 = true := by kernel_rfl
@[simp] theorem tyZero143 : eZero Go.Proofs.Tryz.prog 143 = some [.pointer none] := by kernel_rfl
@[simp] theorem tySz144 : eSz Go.Proofs.Tryz.prog 144 = some 1 := by kernel_rfl
@[simp] theorem tyAgg144 : eAgg Go.Proofs.Tryz.prog 144 = some false := by kernel_rfl
@[simp] theorem tyStr144 : eStr Go.Proofs.Tryz.prog 144 = false := by kernel_rfl
@[simp] theorem tySz146 : eSz Go.Proofs.Tryz.prog 146 = some 1 := by kernel_rfl
@[simp] theorem tyAgg146 : eAgg Go.Proofs.Tryz.prog 146 = some false := by kernel_rfl
@[simp] theorem tyStr146 : eStr Go.Proofs.Tryz.prog 146 = false := by kernel_rfl
@[simp] theorem tyPtr146 : ePtr Go.Proofs.Tryz.prog 146 = true := by kernel_rfl
@[simp] theorem tyZero146 : eZero Go.Proofs.Tryz.prog 146 = some [.pointer none] := by kernel_rfl
@[simp] theorem tySz148 : eSz Go.Proofs.Tryz.prog 148 = some 10 := by kernel_rfl
@[simp] theorem tyAgg148 : eAgg Go.Proofs.Tryz.prog 148 = some true := by kernel_rfl
@[simp] theorem tyStr148 : eStr Go.Proofs.Tryz.prog 148 = false := by kernel_rfl
@[simp] theorem tyFld148_0 : eFld Go.Proofs.Tryz.prog 148 0 = some (9, 0) := by kernel_rfl
@[simp] theorem tyFld148_1 : eFld Go.Proofs.Tryz.prog 148 1 = some (3, 1) := by kernel_rfl
@[simp] theorem tyFld148_2 : eFld Go.Proofs.Tryz.prog 148 2 = some (24, 2) := by kernel_rfl
@[simp] theorem tyPl148 : ePl Go.Proofs.Tryz.prog 148 = some [(0, 1), (1, 1), (2, 8)] := by kernel_rfl
@[simp] theorem tyZero148 : eZero Go.Proofs.Tryz.prog 148 = some [.string .empty, .int .i64 0, .string .empty, .string .empty, .string .empty, .string .empty, .string .empty, .bool false, .string .empty, .bool false] := by kernel_rfl
@[simp] theorem tySz149 : eSz Go.Proofs.Tryz.prog 149 = some 1 := by kernel_rfl
@[simp] theorem tyAgg149 : eAgg Go.Proofs.Tryz.prog 149 = some false := by kernel_rfl
@[simp] theorem tyStr149 : eStr Go.Proofs.Tryz.prog 149 = false := by kernel_rfl
@[simp] theorem tySz153 : eSz Go.Proofs.Tryz.prog 153 = some 1 := by kernel_rfl
@[simp] theorem tyAgg153 : eAgg Go.Proofs.Tryz.prog 153 = some false := by kernel_rfl
@[simp] theorem tyStr153 : eStr Go.Proofs.Tryz.prog 153 = false := by kernel_rfl
@[simp] theorem tyZero153 : eZero Go.Proofs.Tryz.prog 153 = some [.nilFunc] := by kernel_rfl
@[simp] theorem tySz158 : eSz Go.Proofs.Tryz.prog 158 = some 1 := by kernel_rfl
@[simp] theorem tyAgg158 : eAgg Go.Proofs.Tryz.prog 158 = some false := by kernel_rfl
@[simp] theorem tyStr158 : eStr Go.Proofs.Tryz.prog 158 = false := by kernel_rfl
@[simp] theorem tySz161 : eSz Go.Proofs.Tryz.prog 161 = some 1 := by kernel_rfl
@[simp] theorem tyAgg161 : eAgg Go.Proofs.Tryz.prog 161 = some false := by kernel_rfl
@[simp] theorem tyStr161 : eStr Go.Proofs.Tryz.prog 161 = false := by kernel_rfl
@[simp] theorem tySz166 : eSz Go.Proofs.Tryz.prog 166 = some 1 := by kernel_rfl
@[simp] theorem tyAgg166 : eAgg Go.Proofs.Tryz.prog 166 = some false := by kernel_rfl
@[simp] theorem tyElem166 : eElem Go.Proofs.Tryz.prog 166 = some (168, 2) := by kernel_rfl
@[simp] theorem tyBytes168 : eBytes Go.Proofs.Tryz.prog 168 = some 16 := by kernel_rfl
@[simp] theorem tyStr166 : eStr Go.Proofs.Tryz.prog 166 = false := by kernel_rfl
@[simp] theorem tyZero166 : eZero Go.Proofs.Tryz.prog 166 = some [.slice none 0 0] := by kernel_rfl
@[simp] theorem tySz168 : eSz Go.Proofs.Tryz.prog 168 = some 2 := by kernel_rfl
@[simp] theorem tyAgg168 : eAgg Go.Proofs.Tryz.prog 168 = some true := by kernel_rfl
@[simp] theorem tyStr168 : eStr Go.Proofs.Tryz.prog 168 = false := by kernel_rfl
@[simp] theorem tyFld168_0 : eFld Go.Proofs.Tryz.prog 168 0 = some (3, 0) := by kernel_rfl
@[simp] theorem tyFld168_1 : eFld Go.Proofs.Tryz.prog 168 1 = some (3, 1) := by kernel_rfl
@[simp] theorem tyPl168 : ePl Go.Proofs.Tryz.prog 168 = some [(0, 1), (1, 1)] := by kernel_rfl
@[simp] theorem tyZero168 : eZero Go.Proofs.Tryz.prog 168 = some [.int .i64 0, .int .i64 0] := by kernel_rfl
@[simp] theorem tySz174 : eSz Go.Proofs.Tryz.prog 174 = some 1 := by kernel_rfl
@[simp] theorem tyAgg174 : eAgg Go.Proofs.Tryz.prog 174 = some false := by kernel_rfl
@[simp] theorem tyStr174 : eStr Go.Proofs.Tryz.prog 174 = false := by kernel_rfl
@[simp] theorem tyInt174 : eInt Go.Proofs.Tryz.prog 174 = some .u32 := by kernel_rfl
@[simp] theorem tyZero174 : eZero Go.Proofs.Tryz.prog 174 = some [.int .u32 0] := by kernel_rfl
@[simp] theorem tySz175 : eSz Go.Proofs.Tryz.prog 175 = some 1 := by kernel_rfl
@[simp] theorem tyAgg175 : eAgg Go.Proofs.Tryz.prog 175 = some false := by kernel_rfl
@[simp] theorem tyStr175 : eStr Go.Proofs.Tryz.prog 175 = false := by kernel_rfl
@[simp] theorem tySz177 : eSz Go.Proofs.Tryz.prog 177 = some 256 := by kernel_rfl
@[simp] theorem tyAgg177 : eAgg Go.Proofs.Tryz.prog 177 = some true := by kernel_rfl
@[simp] theorem tyStr177 : eStr Go.Proofs.Tryz.prog 177 = false := by kernel_rfl
@[simp] theorem tyArr177 : eArr Go.Proofs.Tryz.prog 177 = some (5, 256, 1) := by kernel_rfl
@[simp] theorem tySz179 : eSz Go.Proofs.Tryz.prog 179 = some 2 := by kernel_rfl
@[simp] theorem tyAgg179 : eAgg Go.Proofs.Tryz.prog 179 = some true := by kernel_rfl
@[simp] theorem tyStr179 : eStr Go.Proofs.Tryz.prog 179 = false := by kernel_rfl
@[simp] theorem tyFld179_0 : eFld Go.Proofs.Tryz.prog 179 0 = some (5, 0) := by kernel_rfl
@[simp] theorem tyFld179_1 : eFld Go.Proofs.Tryz.prog 179 1 = some (5, 1) := by kernel_rfl
@[simp] theorem tyPl179 : ePl Go.Proofs.Tryz.prog 179 = some [(0, 1), (1, 1)] := by kernel_rfl
@[simp] theorem tyZero179 : eZero Go.Proofs.Tryz.prog 179 = some [.int .u8 0, .int .u8 0] := by kernel_rfl
@[simp] theorem tySz180 : eSz Go.Proofs.Tryz.prog 180 = some 32 := by kernel_rfl
@[simp] theorem tyAgg180 : eAgg Go.Proofs.Tryz.prog 180 = some true := by kernel_rfl
@[simp] theorem tyStr180 : eStr Go.Proofs.Tryz.prog 180 = false := by kernel_rfl
@[simp] theorem tyArr180 : eArr Go.Proofs.Tryz.prog 180 = some (179, 16, 2) := by kernel_rfl
@[simp] theorem tyPl180 : ePl Go.Proofs.Tryz.prog 180 = some [(0, 2), (2, 2), (4, 2), (6, 2), (8, 2), (10, 2), (12, 2), (14, 2), (16, 2), (18, 2), (20, 2), (22, 2), (24, 2), (26, 2), (28, 2), (30, 2)] := by kernel_rfl
@[simp] theorem tyZero180 : eZero Go.Proofs.Tryz.prog 180 = some [.int .u8 0, .int .u8 0, .int .u8 0, .int .u8 0, .int .u8 0, .int .u8 0, .int .u8 0, .int .u8 0, .int .u8 0, .int .u8 0, .int .u8 0, .int .u8 0, .int .u8 0, .int .u8 0, .int .u8 0, .int .u8 0, .int .u8 0, .int .u8 0, .int .u8 0, .int .u8 0, .int .u8 0, .int .u8 0, .int .u8 0, .int .u8 0, .int .u8 0, .int .u8 0, .int .u8 0, .int .u8 0, .int .u8 0, .int .u8 0, .int .u8 0, .int .u8 0] := by kernel_rfl
@[simp] theorem tyEq24 : eEq Go.Proofs.Tryz.prog 24 = some [1, 1, 1, 1, 1, 2, 1, 2] := by kernel_rfl
@[simp] theorem tyEq31 : eEq Go.Proofs.Tryz.prog 31 = some [0, 0] := by kernel_rfl
@[simp] theorem tyEq33 : eEq Go.Proofs.Tryz.prog 33 = some [0, 1, 0, 0, 1, 1, 1, 1, 1, 2, 1, 2, 2] := by kernel_rfl
@[simp] theorem tyEq64 : eEq Go.Proofs.Tryz.prog 64 = some [0, 0, 1] := by kernel_rfl
@[simp] theorem tyEq86 : eEq Go.Proofs.Tryz.prog 86 = some [1, 0] := by kernel_rfl
@[simp] theorem tyEq92 : eEq Go.Proofs.Tryz.prog 92 = some [1, 1] := by kernel_rfl
@[simp] theorem tyEq99 : eEq Go.Proofs.Tryz.prog 99 = some [1, 1, 0, 0, 2] := by kernel_rfl
@[simp] theorem tyEq148 : eEq Go.Proofs.Tryz.prog 148 = some [1, 0, 1, 1, 1, 1, 1, 2, 1, 2] := by kernel_rfl
@[simp] theorem tyEq168 : eEq Go.Proofs.Tryz.prog 168 = some [0, 0] := by kernel_rfl
@[simp] theorem tyEq179 : eEq Go.Proofs.Tryz.prog 179 = some [0, 0] := by kernel_rfl
end Go.Lw
