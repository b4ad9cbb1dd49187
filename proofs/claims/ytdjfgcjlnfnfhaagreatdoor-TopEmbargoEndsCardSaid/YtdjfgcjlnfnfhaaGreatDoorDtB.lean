/- DATES, by what is asked of them only: a moment by the calendar. -/
import Derived.Test.YtdjfgcjlnfnfhaaGreatDoorLwTail
import Derived.Test.YtdjfgcjlnfnfhaaGreatDoorProg
import Derived.Test.YtdjfgcjlnfnfhaaGreatDoorLwEx
set_option linter.unusedSimpArgs false
set_option linter.unusedVariables false
namespace Go.Lw
open Go.Proofs.Tryz
@[simp] theorem Xe:eSz prog 0=some 1∧aK prog 0=some false∧aP prog 0=false∧eSz prog 1=some 1∧aK prog 1=some false∧aP prog 1=false∧aL prog 1=some [.nilFunc]∧eSz prog 2=some 1:=⟨qC,qC,qC,qC,qC,qC,qC,qC⟩
@[simp] theorem WC:aK prog 2=some false∧aP prog 2=false∧nD prog 2=some .i64∧aL prog 2=some [.int .i64 0]∧eSz prog 3=some 1∧aK prog 3=some false∧aP prog 3=false∧nD prog 3=some .i64:=⟨qC,qC,qC,qC,qC,qC,qC,qC⟩
@[simp] theorem V3:aL prog 3=some [.int .i64 0]∧eSz prog 4=some 1∧aK prog 4=some false∧aP prog 4=false∧Jp prog 4=true∧aL prog 4=some [.bool false]∧eSz prog 5=some 1∧aK prog 5=some false:=⟨qC,qC,qC,qC,qC,qC,qC,qC⟩
@[simp] theorem WD:aP prog 5=false∧nD prog 5=some .u8∧aL prog 5=some [.int .u8 0]∧eSz prog 6=some 1∧aK prog 6=some false∧aP prog 6=false∧nD prog 6=some .u8∧aL prog 6=some [.int .u8 0]:=⟨qC,qC,qC,qC,qC,qC,qC,qC⟩
@[simp] theorem Xf:eSz prog 7=some 4∧aK prog 7=some true∧aP prog 7=false∧aU prog 7 0=some (2,0)∧aU prog 7 1=some (3,1)∧aU prog 7 2=some (4,2)∧aU prog 7 3=some (6,3)∧ePl prog 7=some [(0,1),(1,1),(2,1),(3,1)]:=⟨qC,qC,qC,qC,qC,qC,qC,qC⟩
@[simp] theorem V4:aL prog 7=some [.int .i64 0,.int .i64 0,.bool false,.int .u8 0]∧eSz prog 8=some 4∧aK prog 8=some true∧aP prog 8=false∧aU prog 8 0=some (2,0)∧aU prog 8 1=some (3,1)∧aU prog 8 2=some (4,2)∧aU prog 8 3=some (6,3):=⟨qC,qC,qC,qC,qC,qC,qC,qC⟩
@[simp] theorem Xh:ePl prog 8=some [(0,1),(1,1),(2,1),(3,1)]∧aL prog 8=some [.int .i64 0,.int .i64 0,.bool false,.int .u8 0]∧eSz prog 9=some 1∧aK prog 9=some false∧aP prog 9=true∧nD prog 9=none∧aL prog 9=some [.string .empty]∧eSz prog 12=some 1:=⟨qC,qC,qC,qC,qC,qC,qC,qC⟩
@[simp] theorem V5:aK prog 12=some false∧aP prog 12=false∧nD prog 12=some .u64∧aL prog 12=some [.int .u64 0]∧eSz prog 20=some 1∧aK prog 20=some false∧aP prog 20=false∧aL prog 20=some [.nilIface]:=⟨qC,qC,qC,qC,qC,qC,qC,qC⟩
@[simp] theorem WE:eSz prog 21=some 1∧aK prog 21=some false∧aP prog 21=false∧nD prog 21=some .i32∧aL prog 21=some [.int .i32 0]∧eSz prog 22=some 1∧aK prog 22=some false∧bM prog 22=some (34,9):=⟨qC,qC,qC,qC,qC,qC,qC,qC⟩
@[simp] theorem TO:cK prog 34=some 104∧aP prog 22=false∧aL prog 22=some [.slice none 0 0]∧eSz prog 23=some 1∧aK prog 23=some false∧bM prog 23=some (156,2)∧cK prog 156=some 40∧aP prog 23=false:=⟨qC,qC,qC,qC,qC,qC,qC,qC⟩
@[simp] theorem Un:aL prog 23=some [.slice none 0 0]∧eSz prog 24=some 1∧aK prog 24=some false∧bM prog 24=some (159,2)∧cK prog 159=some 24∧aP prog 24=false∧aL prog 24=some [.slice none 0 0]∧eSz prog 26=some 3:=⟨qC,qC,qC,qC,qC,qC,qC,qC⟩
@[simp] theorem V6:aK prog 26=some true∧aP prog 26=false∧aU prog 26 0=some (22,0)∧aU prog 26 1=some (23,1)∧aU prog 26 2=some (24,2)∧ePl prog 26=some [(0,1),(1,1),(2,1)]∧aL prog 26=some [.slice none 0 0,.slice none 0 0,.slice none 0 0]∧eSz prog 28=some 9:=⟨qC,qC,qC,qC,qC,qC,qC,qC⟩
@[simp] theorem V7:aK prog 28=some true∧aP prog 28=false∧aU prog 28 0=some (9,0)∧aU prog 28 1=some (9,1)∧aU prog 28 2=some (3,2)∧aU prog 28 3=some (3,3)∧aU prog 28 4=some (3,4)∧aU prog 28 5=some (3,5):=⟨qC,qC,qC,qC,qC,qC,qC,qC⟩
@[simp] theorem TP:aU prog 28 6=some (3,6)∧aU prog 28 7=some (3,7)∧aU prog 28 8=some (9,8)∧ePl prog 28=some [(0,1),(1,1),(2,1),(3,1),(4,1),(5,1),(6,1),(7,1),(8,1)]∧aL prog 28=some [.string .empty,.string .empty,.int .i64 0,.int .i64 0,.int .i64 0,.int .i64 0,.int .i64 0,.int .i64 0,.string .empty]∧eSz prog 29=some 1∧aK prog 29=some false∧bM prog 29=some (28,9):=⟨qC,qC,qC,qC,qC,qC,qC,qC⟩
@[simp] theorem TQ:cK prog 28=some 96∧aP prog 29=false∧aL prog 29=some [.slice none 0 0]∧eSz prog 30=some 1∧aK prog 30=some false∧bM prog 30=some (9,1)∧cK prog 9=some 16∧aP prog 30=false:=⟨qC,qC,qC,qC,qC,qC,qC,qC⟩
@[simp] theorem Uo:aL prog 30=some [.slice none 0 0]∧eSz prog 32=some 2∧aK prog 32=some true∧aP prog 32=false∧aU prog 32 0=some (3,0)∧aU prog 32 1=some (3,1)∧ePl prog 32=some [(0,1),(1,1)]∧aL prog 32=some [.int .i64 0,.int .i64 0]:=⟨qC,qC,qC,qC,qC,qC,qC,qC⟩
@[simp] theorem WG:eSz prog 34=some 9∧aK prog 34=some true∧aP prog 34=false∧aU prog 34 0=some (9,0)∧aU prog 34 1=some (3,1)∧aU prog 34 2=some (3,2)∧aU prog 34 3=some (9,3)∧aU prog 34 4=some (9,4):=⟨qC,qC,qC,qC,qC,qC,qC,qC⟩
@[simp] theorem TR:aU prog 34 5=some (9,5)∧aU prog 34 6=some (32,6)∧aU prog 34 7=some (4,8)∧ePl prog 34=some [(0,1),(1,1),(2,1),(3,1),(4,1),(5,1),(6,2),(8,1)]∧aL prog 34=some [.string .empty,.int .i64 0,.int .i64 0,.string .empty,.string .empty,.string .empty,.int .i64 0,.int .i64 0,.bool false]∧eSz prog 35=some 1∧aK prog 35=some false∧bM prog 35=some (5,1):=⟨qC,qC,qC,qC,qC,qC,qC,qC⟩
@[simp] theorem Up:cK prog 5=some 1∧aP prog 35=false∧aL prog 35=some [.slice none 0 0]∧eSz prog 36=some 1∧aK prog 36=some false∧bM prog 36=some (83,5)∧cK prog 83=some 48∧aP prog 36=false:=⟨qC,qC,qC,qC,qC,qC,qC,qC⟩
@[simp] theorem Uq:aL prog 36=some [.slice none 0 0]∧eSz prog 38=some 14∧aK prog 38=some true∧aP prog 38=false∧aU prog 38 0=some (4,0)∧aU prog 38 1=some (30,1)∧aU prog 38 2=some (34,2)∧aU prog 38 3=some (35,11):=⟨qC,qC,qC,qC,qC,qC,qC,qC⟩
@[simp] theorem TS:aU prog 38 4=some (36,12)∧aU prog 38 5=some (3,13)∧ePl prog 38=some [(0,1),(1,1),(2,9),(11,1),(12,1),(13,1)]∧aL prog 38=some [.bool false,.slice none 0 0,.string .empty,.int .i64 0,.int .i64 0,.string .empty,.string .empty,.string .empty,.int .i64 0,.int .i64 0,.bool false,.slice none 0 0,.slice none 0 0,.int .i64 0]∧eSz prog 39=some 1∧aK prog 39=some false∧aP prog 39=false∧nD prog 39=some .i64:=⟨qC,qC,qC,qC,qC,qC,qC,qC⟩
@[simp] theorem Ur:aL prog 39=some [.int .i64 0]∧eSz prog 40=some 1∧aK prog 40=some false∧aP prog 40=false∧eSz prog 43=some 2∧aK prog 43=some true∧aP prog 43=false∧aU prog 43 0=some (9,0):=⟨qC,qC,qC,qC,qC,qC,qC,qC⟩
@[simp] theorem TT:aU prog 43 1=some (4,1)∧ePl prog 43=some [(0,1),(1,1)]∧aL prog 43=some [.string .empty,.bool false]∧eSz prog 48=some 1∧aK prog 48=some false∧bM prog 48=some (236,3)∧cK prog 236=some 64∧aP prog 48=false:=⟨qC,qC,qC,qC,qC,qC,qC,qC⟩
@[simp] theorem Us:aL prog 48=some [.slice none 0 0]∧eSz prog 49=some 1∧aK prog 49=some false∧aP prog 49=false∧eSz prog 51=some 1∧aK prog 51=some false∧aP prog 51=false∧eSz prog 54=some 8:=⟨qC,qC,qC,qC,qC,qC,qC,qC⟩
@[simp] theorem V8:aK prog 54=some true∧aP prog 54=false∧aU prog 54 0=some (9,0)∧aU prog 54 1=some (9,1)∧aU prog 54 2=some (9,2)∧aU prog 54 3=some (9,3)∧aU prog 54 4=some (9,4)∧aU prog 54 5=some (4,5):=⟨qC,qC,qC,qC,qC,qC,qC,qC⟩
@[simp] theorem TU:aU prog 54 6=some (9,6)∧aU prog 54 7=some (4,7)∧ePl prog 54=some [(0,1),(1,1),(2,1),(3,1),(4,1),(5,1),(6,1),(7,1)]∧aL prog 54=some [.string .empty,.string .empty,.string .empty,.string .empty,.string .empty,.bool false,.string .empty,.bool false]∧eSz prog 55=some 1∧aK prog 55=some false∧aP prog 55=false∧aL prog 55=some [.nilFunc]:=⟨qC,qC,qC,qC,qC,qC,qC,qC⟩
@[simp] theorem WH:eSz prog 57=some 1∧aK prog 57=some false∧aP prog 57=false∧kN prog 57=true∧aL prog 57=some [.pointer none]∧eSz prog 58=some 1∧aK prog 58=some false∧aP prog 58=false:=⟨qC,qC,qC,qC,qC,qC,qC,qC⟩
@[simp] theorem WI:eSz prog 60=some 1∧aK prog 60=some false∧aP prog 60=false∧eSz prog 62=some 1∧aK prog 62=some false∧bM prog 62=some (256,2)∧cK prog 256=some 32∧aP prog 62=false:=⟨qC,qC,qC,qC,qC,qC,qC,qC⟩
@[simp] theorem Ut:aL prog 62=some [.slice none 0 0]∧eSz prog 64=some 4∧aK prog 64=some true∧aP prog 64=false∧aU prog 64 0=some (3,0)∧aU prog 64 1=some (9,1)∧aU prog 64 2=some (62,2)∧aU prog 64 3=some (35,3):=⟨qC,qC,qC,qC,qC,qC,qC,qC⟩
@[simp] theorem WJ:ePl prog 64=some [(0,1),(1,1),(2,1),(3,1)]∧aL prog 64=some [.int .i64 0,.string .empty,.slice none 0 0,.slice none 0 0]∧eSz prog 65=some 1∧aK prog 65=some false∧aP prog 65=false∧eSz prog 68=some 1∧aK prog 68=some false∧bM prog 68=some (118,13):=⟨qC,qC,qC,qC,qC,qC,qC,qC⟩
@[simp] theorem SC:cK prog 118=some 160∧aP prog 68=false∧aL prog 68=some [.slice none 0 0]∧eSz prog 69=some 1∧aK prog 69=some false∧aP prog 69=false∧eSz prog 71=some 1∧aK prog 71=some false:=⟨qC,qC,qC,qC,qC,qC,qC,qC⟩
@[simp] theorem Uu:bM prog 71=some (127,2)∧cK prog 127=some 32∧aP prog 71=false∧aL prog 71=some [.slice none 0 0]∧eSz prog 73=some 1∧aK prog 73=some false∧aP prog 73=false∧eSz prog 75=some 1:=⟨qC,qC,qC,qC,qC,qC,qC,qC⟩
@[simp] theorem V9:aK prog 75=some false∧aP prog 75=false∧aL prog 75=some [.nilFunc]∧eSz prog 77=some 1∧aK prog 77=some false∧aP prog 77=false∧eSz prog 83=some 5∧aK prog 83=some true:=⟨qC,qC,qC,qC,qC,qC,qC,qC⟩
@[simp] theorem Wa:aP prog 83=false∧aU prog 83 0=some (9,0)∧aU prog 83 1=some (3,1)∧aU prog 83 2=some (3,2)∧aU prog 83 3=some (3,3)∧aU prog 83 4=some (3,4)∧ePl prog 83=some [(0,1),(1,1),(2,1),(3,1),(4,1)]∧aL prog 83=some [.string .empty,.int .i64 0,.int .i64 0,.int .i64 0,.int .i64 0]:=⟨qC,qC,qC,qC,qC,qC,qC,qC⟩
@[simp] theorem WK:eSz prog 84=some 1∧aK prog 84=some false∧aP prog 84=false∧eSz prog 87=some 2∧aK prog 87=some true∧aP prog 87=false∧aU prog 87 0=some (9,0)∧aU prog 87 1=some (3,1):=⟨qC,qC,qC,qC,qC,qC,qC,qC⟩
@[simp] theorem WL:ePl prog 87=some [(0,1),(1,1)]∧aL prog 87=some [.string .empty,.int .i64 0]∧eSz prog 90=some 1∧aK prog 90=some false∧aP prog 90=false∧aL prog 90=some [.nilFunc]∧eSz prog 99=some 1∧aK prog 99=some false:=⟨qC,qC,qC,qC,qC,qC,qC,qC⟩
@[simp] theorem Wb:aP prog 99=false∧eSz prog 101=some 1∧aK prog 101=some false∧aP prog 101=false∧eSz prog 103=some 1∧aK prog 103=some false∧aP prog 103=false∧aL prog 103=some [.map none]:=⟨qC,qC,qC,qC,qC,qC,qC,qC⟩
@[simp] theorem We:eSz prog 105=some 4∧aK prog 105=some true∧aP prog 105=false∧aU prog 105 0=some (26,0)∧aU prog 105 1=some (103,3)∧ePl prog 105=some [(0,3),(3,1)]∧aL prog 105=some [.slice none 0 0,.slice none 0 0,.slice none 0 0,.map none]∧eSz prog 106=some 1:=⟨qC,qC,qC,qC,qC,qC,qC,qC⟩
@[simp] theorem Uv:aK prog 106=some false∧bM prog 106=some (183,7)∧cK prog 183=some 112∧aP prog 106=false∧aL prog 106=some [.slice none 0 0]∧eSz prog 107=some 1∧aK prog 107=some false∧aP prog 107=false:=⟨qC,qC,qC,qC,qC,qC,qC,qC⟩
@[simp] theorem TV:aL prog 107=some [.map none]∧eSz prog 109=some 2∧aK prog 109=some true∧aP prog 109=false∧aU prog 109 0=some (106,0)∧aU prog 109 1=some (107,1)∧ePl prog 109=some [(0,1),(1,1)]∧aL prog 109=some [.slice none 0 0,.map none]:=⟨qC,qC,qC,qC,qC,qC,qC,qC⟩
@[simp] theorem Wf:eSz prog 110=some 1∧aK prog 110=some false∧aP prog 110=false∧eSz prog 112=some 1∧aK prog 112=some false∧aP prog 112=false∧eSz prog 114=some 1∧aK prog 114=some false:=⟨qC,qC,qC,qC,qC,qC,qC,qC⟩
@[simp] theorem Uw:aP prog 114=false∧eSz prog 116=some 1∧aK prog 116=some false∧aP prog 116=false∧aL prog 116=some [.map none]∧eSz prog 118=some 13∧aK prog 118=some true∧aP prog 118=false:=⟨qC,qC,qC,qC,qC,qC,qC,qC⟩
@[simp] theorem SD:aU prog 118 0=some (3,0)∧aU prog 118 1=some (9,1)∧aU prog 118 2=some (32,2)∧aU prog 118 3=some (54,4)∧aU prog 118 4=some (4,12)∧ePl prog 118=some [(0,1),(1,1),(2,2),(4,8),(12,1)]∧aL prog 118=some [.int .i64 0,.string .empty,.int .i64 0,.int .i64 0,.string .empty,.string .empty,.string .empty,.string .empty,.string .empty,.bool false,.string .empty,.bool false,.bool false]∧eSz prog 120=some 1:=⟨qC,qC,qC,qC,qC,qC,qC,qC⟩
@[simp] theorem Ux:aK prog 120=some false∧aP prog 120=false∧eSz prog 123=some 1∧aK prog 123=some false∧aP prog 123=false∧aL prog 123=some [.nilFunc]∧eSz prog 124=some 1∧aK prog 124=some false:=⟨qC,qC,qC,qC,qC,qC,qC,qC⟩
@[simp] theorem Uy:aP prog 124=false∧aL prog 124=some [.nilFunc]∧eSz prog 127=some 2∧aK prog 127=some true∧aP prog 127=false∧aU prog 127 0=some (9,0)∧aU prog 127 1=some (9,1)∧ePl prog 127=some [(0,1),(1,1)]:=⟨qC,qC,qC,qC,qC,qC,qC,qC⟩
@[simp] theorem TW:aL prog 127=some [.string .empty,.string .empty]∧eSz prog 128=some 1∧aK prog 128=some false∧bM prog 128=some (217,5)∧cK prog 217=some 64∧aP prog 128=false∧aL prog 128=some [.slice none 0 0]∧eSz prog 129=some 1:=⟨qC,qC,qC,qC,qC,qC,qC,qC⟩
@[simp] theorem Uz:aK prog 129=some false∧aP prog 129=false∧eSz prog 132=some 1∧aK prog 132=some false∧aP prog 132=false∧kN prog 132=true∧aL prog 132=some [.pointer none]∧eSz prog 134=some 2:=⟨qC,qC,qC,qC,qC,qC,qC,qC⟩
@[simp] theorem UA:aK prog 134=some true∧aP prog 134=false∧aU prog 134 0=some (71,0)∧aU prog 134 1=some (3,1)∧ePl prog 134=some [(0,1),(1,1)]∧aL prog 134=some [.slice none 0 0,.int .i64 0]∧eSz prog 136=some 1∧aK prog 136=some false:=⟨qC,qC,qC,qC,qC,qC,qC,qC⟩
@[simp] theorem TX:bM prog 136=some (144,3)∧cK prog 144=some 32∧aP prog 136=false∧aL prog 136=some [.slice none 0 0]∧eSz prog 139=some 2∧aK prog 139=some true∧aP prog 139=false∧aU prog 139 0=some (9,0):=⟨qC,qC,qC,qC,qC,qC,qC,qC⟩
@[simp] theorem SE:aU prog 139 1=some (9,1)∧ePl prog 139=some [(0,1),(1,1)]∧aL prog 139=some [.string .empty,.string .empty]∧eSz prog 140=some 1∧aK prog 140=some false∧aP prog 140=false∧eSz prog 144=some 3∧aK prog 144=some true:=⟨qC,qC,qC,qC,qC,qC,qC,qC⟩
@[simp] theorem UB:aP prog 144=false∧aU prog 144 0=some (32,0)∧aU prog 144 1=some (9,2)∧ePl prog 144=some [(0,2),(2,1)]∧aL prog 144=some [.int .i64 0,.int .i64 0,.string .empty]∧eSz prog 145=some 1∧aK prog 145=some false∧aP prog 145=false:=⟨qC,qC,qC,qC,qC,qC,qC,qC⟩
@[simp] theorem TY:aL prog 145=some [.map none]∧eSz prog 150=some 2∧aK prog 150=some true∧aP prog 150=false∧aU prog 150 0=some (4,0)∧aU prog 150 1=some (30,1)∧ePl prog 150=some [(0,1),(1,1)]∧aL prog 150=some [.bool false,.slice none 0 0]:=⟨qC,qC,qC,qC,qC,qC,qC,qC⟩
@[simp] theorem Wg:eSz prog 156=some 2∧aK prog 156=some true∧aP prog 156=false∧aU prog 156 0=some (9,0)∧aU prog 156 1=some (35,1)∧ePl prog 156=some [(0,1),(1,1)]∧aL prog 156=some [.string .empty,.slice none 0 0]∧eSz prog 159=some 2:=⟨qC,qC,qC,qC,qC,qC,qC,qC⟩
@[simp] theorem UC:aK prog 159=some true∧aP prog 159=false∧aU prog 159 0=some (3,0)∧aU prog 159 1=some (9,1)∧ePl prog 159=some [(0,1),(1,1)]∧aL prog 159=some [.int .i64 0,.string .empty]∧eSz prog 173=some 1∧aK prog 173=some false:=⟨qC,qC,qC,qC,qC,qC,qC,qC⟩
@[simp] theorem UD:aP prog 173=false∧eSz prog 175=some 1∧aK prog 175=some false∧bM prog 175=some (179,3)∧cK prog 179=some 32∧aP prog 175=false∧aL prog 175=some [.slice none 0 0]∧eSz prog 176=some 1:=⟨qC,qC,qC,qC,qC,qC,qC,qC⟩
@[simp] theorem UE:aK prog 176=some false∧aP prog 176=false∧eSz prog 179=some 3∧aK prog 179=some true∧aP prog 179=false∧aU prog 179 0=some (9,0)∧aU prog 179 1=some (32,1)∧ePl prog 179=some [(0,1),(1,2)]:=⟨qC,qC,qC,qC,qC,qC,qC,qC⟩
@[simp] theorem TZ:aL prog 179=some [.string .empty,.int .i64 0,.int .i64 0]∧eSz prog 181=some 1∧aK prog 181=some false∧aP prog 181=false∧eSz prog 183=some 7∧aK prog 183=some true∧aP prog 183=false∧aU prog 183 0=some (3,0):=⟨qC,qC,qC,qC,qC,qC,qC,qC⟩
@[simp] theorem SF:aU prog 183 1=some (9,1)∧aU prog 183 2=some (9,2)∧aU prog 183 3=some (3,3)∧aU prog 183 4=some (9,4)∧aU prog 183 5=some (62,5)∧aU prog 183 6=some (35,6)∧ePl prog 183=some [(0,1),(1,1),(2,1),(3,1),(4,1),(5,1),(6,1)]∧aL prog 183=some [.int .i64 0,.string .empty,.string .empty,.int .i64 0,.string .empty,.slice none 0 0,.slice none 0 0]:=⟨qC,qC,qC,qC,qC,qC,qC,qC⟩
@[simp] theorem Wh:eSz prog 184=some 1∧aK prog 184=some false∧aP prog 184=false∧eSz prog 188=some 1∧aK prog 188=some false∧aP prog 188=false∧eSz prog 192=some 1∧aK prog 192=some false:=⟨qC,qC,qC,qC,qC,qC,qC,qC⟩
@[simp] theorem UF:aP prog 192=false∧eSz prog 194=some 1∧aK prog 194=some false∧aP prog 194=false∧eSz prog 196=some 1∧aK prog 196=some false∧aP prog 196=false∧eSz prog 200=some 1:=⟨qC,qC,qC,qC,qC,qC,qC,qC⟩
@[simp] theorem UG:aK prog 200=some false∧aP prog 200=false∧eSz prog 202=some 1∧aK prog 202=some false∧aP prog 202=false∧kN prog 202=true∧aL prog 202=some [.pointer none]∧eSz prog 204=some 17:=⟨qC,qC,qC,qC,qC,qC,qC,qC⟩
@[simp] theorem UH:aK prog 204=some true∧aP prog 204=false∧aU prog 204 0=some (54,0)∧aU prog 204 1=some (54,8)∧aU prog 204 2=some (68,16)∧ePl prog 204=some [(0,8),(8,8),(16,1)]∧aL prog 204=some [.string .empty,.string .empty,.string .empty,.string .empty,.string .empty,.bool false,.string .empty,.bool false,.string .empty,.string .empty,.string .empty,.string .empty,.string .empty,.bool false,.string .empty,.bool false,.slice none 0 0]∧eSz prog 205=some 1:=⟨qC,qC,qC,qC,qC,qC,qC,qC⟩
@[simp] theorem UI:aK prog 205=some false∧bM prog 205=some (32,2)∧cK prog 32=some 16∧aP prog 205=false∧aL prog 205=some [.slice none 0 0]∧eSz prog 210=some 1∧aK prog 210=some false∧aP prog 210=false:=⟨qC,qC,qC,qC,qC,qC,qC,qC⟩
@[simp] theorem Wi:eSz prog 212=some 1∧aK prog 212=some false∧aP prog 212=false∧eSz prog 215=some 1∧aK prog 215=some false∧bM prog 215=some (220,5)∧cK prog 220=some 56∧aP prog 215=false:=⟨qC,qC,qC,qC,qC,qC,qC,qC⟩
@[simp] theorem T0:aL prog 215=some [.slice none 0 0]∧eSz prog 217=some 5∧aK prog 217=some true∧aP prog 217=false∧aU prog 217 0=some (3,0)∧aU prog 217 1=some (32,1)∧aU prog 217 2=some (9,3)∧aU prog 217 3=some (215,4):=⟨qC,qC,qC,qC,qC,qC,qC,qC⟩
@[simp] theorem Wj:ePl prog 217=some [(0,1),(1,2),(3,1),(4,1)]∧aL prog 217=some [.int .i64 0,.int .i64 0,.int .i64 0,.string .empty,.slice none 0 0]∧eSz prog 220=some 5∧aK prog 220=some true∧aP prog 220=false∧aU prog 220 0=some (9,0)∧aU prog 220 1=some (9,1)∧aU prog 220 2=some (32,2):=⟨qC,qC,qC,qC,qC,qC,qC,qC⟩
@[simp] theorem SG:aU prog 220 3=some (4,4)∧ePl prog 220=some [(0,1),(1,1),(2,2),(4,1)]∧aL prog 220=some [.string .empty,.string .empty,.int .i64 0,.int .i64 0,.bool false]∧eSz prog 231=some 1∧aK prog 231=some false∧aP prog 231=false∧aL prog 231=some [.nilFunc]∧eSz prog 236=some 3:=⟨qC,qC,qC,qC,qC,qC,qC,qC⟩
@[simp] theorem UJ:aK prog 236=some true∧aP prog 236=false∧aU prog 236 0=some (9,0)∧aU prog 236 1=some (30,1)∧aU prog 236 2=some (30,2)∧ePl prog 236=some [(0,1),(1,1),(2,1)]∧aL prog 236=some [.string .empty,.slice none 0 0,.slice none 0 0]∧eSz prog 240=some 1:=⟨qC,qC,qC,qC,qC,qC,qC,qC⟩
@[simp] theorem UK:aK prog 240=some false∧bM prog 240=some (3,1)∧cK prog 3=some 8∧aP prog 240=false∧aL prog 240=some [.slice none 0 0]∧eSz prog 243=some 1∧aK prog 243=some false∧aP prog 243=false:=⟨qC,qC,qC,qC,qC,qC,qC,qC⟩
@[simp] theorem Wk:eSz prog 248=some 1∧aK prog 248=some false∧aP prog 248=false∧aL prog 248=some [.nilFunc]∧eSz prog 249=some 1∧aK prog 249=some false∧aP prog 249=false∧eSz prog 256=some 2:=⟨qC,qC,qC,qC,qC,qC,qC,qC⟩
@[simp] theorem UL:aK prog 256=some true∧aP prog 256=false∧aU prog 256 0=some (9,0)∧aU prog 256 1=some (9,1)∧ePl prog 256=some [(0,1),(1,1)]∧aL prog 256=some [.string .empty,.string .empty]∧eSz prog 259=some 1∧aK prog 259=some false:=⟨qC,qC,qC,qC,qC,qC,qC,qC⟩
@[simp] theorem UM:aP prog 259=false∧aL prog 259=some [.map none]∧eSz prog 260=some 1∧aK prog 260=some false∧aP prog 260=false∧eSz prog 264=some 1∧aK prog 264=some false∧aP prog 264=false:=⟨qC,qC,qC,qC,qC,qC,qC,qC⟩
@[simp] theorem T3:aL prog 264=some [.nilIface]∧eSz prog 265=some 1∧aK prog 265=some false∧aP prog 265=false∧eSz prog 267=some 1∧aK prog 267=some false∧aP prog 267=false∧eSz prog 270=some 1:=⟨qC,qC,qC,qC,qC,qC,qC,qC⟩
@[simp] theorem UN:aK prog 270=some false∧aP prog 270=false∧eSz prog 272=some 1∧aK prog 272=some false∧aP prog 272=false∧kN prog 272=true∧aL prog 272=some [.pointer none]∧eSz prog 274=some 2:=⟨qC,qC,qC,qC,qC,qC,qC,qC⟩
@[simp] theorem UO:aK prog 274=some true∧aP prog 274=false∧aU prog 274 0=some (9,0)∧aU prog 274 1=some (3,1)∧ePl prog 274=some [(0,1),(1,1)]∧aL prog 274=some [.string .empty,.int .i64 0]∧eSz prog 275=some 1∧aK prog 275=some false:=⟨qC,qC,qC,qC,qC,qC,qC,qC⟩
@[simp] theorem UP:aP prog 275=false∧eSz prog 279=some 6∧aK prog 279=some true∧aP prog 279=false∧aU prog 279 0=some (3,0)∧aU prog 279 1=some (3,1)∧aU prog 279 2=some (3,2)∧aU prog 279 3=some (3,3):=⟨qC,qC,qC,qC,qC,qC,qC,qC⟩
@[simp] theorem SH:aU prog 279 4=some (3,4)∧aU prog 279 5=some (3,5)∧ePl prog 279=some [(0,1),(1,1),(2,1),(3,1),(4,1),(5,1)]∧aL prog 279=some [.int .i64 0,.int .i64 0,.int .i64 0,.int .i64 0,.int .i64 0,.int .i64 0]∧eSz prog 285=some 1∧aK prog 285=some false∧aP prog 285=false∧nD prog 285=some .u64:=⟨qC,qC,qC,qC,qC,qC,qC,qC⟩
@[simp] theorem T4:aL prog 285=some [.int .u64 0]∧eSz prog 286=some 1∧aK prog 286=some false∧aP prog 286=false∧eSz prog 289=some 1∧aK prog 289=some false∧aP prog 289=false∧eSz prog 293=some 1:=⟨qC,qC,qC,qC,qC,qC,qC,qC⟩
@[simp] theorem UQ:aK prog 293=some false∧aP prog 293=false∧aL prog 293=some [.nilFunc]∧eSz prog 294=some 1∧aK prog 294=some false∧aP prog 294=false∧aL prog 294=some [.nilFunc]∧eSz prog 298=some 256:=⟨qC,qC,qC,qC,qC,qC,qC,qC⟩
@[simp] theorem UR:aK prog 298=some true∧aP prog 298=false∧vE prog 298=some (4,256,1)∧eSz prog 299=some 1∧aK prog 299=some false∧aP prog 299=false∧eSz prog 302=some 1∧aK prog 302=some false:=⟨qC,qC,qC,qC,qC,qC,qC,qC⟩
@[simp] theorem US:aP prog 302=false∧kN prog 302=true∧aL prog 302=some [.pointer none]∧eSz prog 303=some 1∧aK prog 303=some false∧aP prog 303=false∧eSz prog 305=some 1∧aK prog 305=some false:=⟨qC,qC,qC,qC,qC,qC,qC,qC⟩
@[simp] theorem UT:aP prog 305=false∧eSz prog 310=some 1∧aK prog 310=some false∧bM prog 310=some (4,1)∧cK prog 4=some 1∧aP prog 310=false∧aL prog 310=some [.slice none 0 0]∧eSz prog 317=some 1:=⟨qC,qC,qC,qC,qC,qC,qC,qC⟩
@[simp] theorem UU:aK prog 317=some false∧aP prog 317=false∧kN prog 317=true∧aL prog 317=some [.pointer none]∧eSz prog 319=some 2∧aK prog 319=some true∧aP prog 319=false∧aU prog 319 0=some (317,0):=⟨qC,qC,qC,qC,qC,qC,qC,qC⟩
@[simp] theorem SI:aU prog 319 1=some (35,1)∧ePl prog 319=some [(0,1),(1,1)]∧aL prog 319=some [.pointer none,.slice none 0 0]∧eSz prog 322=some 1∧aK prog 322=some false∧aP prog 322=false∧eSz prog 330=some 1∧aK prog 330=some false:=⟨qC,qC,qC,qC,qC,qC,qC,qC⟩
@[simp] theorem UW:aP prog 330=false∧aL prog 330=some [.nilFunc]∧eSz prog 334=some 1∧aK prog 334=some false∧aP prog 334=false∧aL prog 334=some [.nilFunc]∧eSz prog 336=some 1∧aK prog 336=some false:=⟨qC,qC,qC,qC,qC,qC,qC,qC⟩
@[simp] theorem UX:aP prog 336=false∧eSz prog 344=some 1∧aK prog 344=some false∧aP prog 344=false∧nD prog 344=some .i64∧aL prog 344=some [.int .i64 0]∧eSz prog 345=some 1∧aK prog 345=some false:=⟨qC,qC,qC,qC,qC,qC,qC,qC⟩
@[simp] theorem UY:aP prog 345=false∧eSz prog 351=some 1∧aK prog 351=some false∧aP prog 351=false∧nD prog 351=some .u32∧aL prog 351=some [.int .u32 0]∧eSz prog 353=some 1∧aK prog 353=some false:=⟨qC,qC,qC,qC,qC,qC,qC,qC⟩
@[simp] theorem UZ:aP prog 353=false∧nD prog 353=some .u64∧aL prog 353=some [.int .u64 0]∧eSz prog 354=some 1∧aK prog 354=some false∧aP prog 354=false∧aL prog 354=some [.nilFunc]∧eSz prog 355=some 1:=⟨qC,qC,qC,qC,qC,qC,qC,qC⟩
@[simp] theorem U0:aK prog 355=some false∧aP prog 355=false∧eSz prog 357=some 1∧aK prog 357=some false∧aP prog 357=false∧eSz prog 360=some 1∧aK prog 360=some false∧aP prog 360=false:=⟨qC,qC,qC,qC,qC,qC,qC,qC⟩
@[simp] theorem U1:kN prog 360=true∧aL prog 360=some [.pointer none]∧eSz prog 362=some 10∧aK prog 362=some true∧aP prog 362=false∧aU prog 362 0=some (9,0)∧aU prog 362 1=some (3,1)∧aU prog 362 2=some (54,2):=⟨qC,qC,qC,qC,qC,qC,qC,qC⟩
@[simp] theorem Wl:ePl prog 362=some [(0,1),(1,1),(2,8)]∧aL prog 362=some [.string .empty,.int .i64 0,.string .empty,.string .empty,.string .empty,.string .empty,.string .empty,.bool false,.string .empty,.bool false]∧eSz prog 364=some 1∧aK prog 364=some false∧aP prog 364=false∧aL prog 364=some [.nilFunc]∧eSz prog 366=some 1∧aK prog 366=some false:=⟨qC,qC,qC,qC,qC,qC,qC,qC⟩
@[simp] theorem T5:bM prog 366=some (368,2)∧cK prog 368=some 32∧aP prog 366=false∧aL prog 366=some [.slice none 0 0]∧eSz prog 368=some 2∧aK prog 368=some true∧aP prog 368=false∧vE prog 368=some (9,2,1):=⟨qC,qC,qC,qC,qC,qC,qC,qC⟩
@[simp] theorem Wp:ePl prog 368=some [(0,1),(1,1)]∧aL prog 368=some [.string .empty,.string .empty]∧eSz prog 370=some 1∧aK prog 370=some false∧aP prog 370=false∧eSz prog 382=some 1∧aK prog 382=some false∧aP prog 382=false:=⟨qC,qC,qC,qC,qC,qC,qC,qC⟩
@[simp] theorem U2:kN prog 382=true∧aL prog 382=some [.pointer none]∧eSz prog 383=some 1∧aK prog 383=some false∧aP prog 383=false∧kN prog 383=true∧aL prog 383=some [.pointer none]∧eSz prog 385=some 11:=⟨qC,qC,qC,qC,qC,qC,qC,qC⟩
@[simp] theorem U3:aK prog 385=some true∧aP prog 385=false∧aU prog 385 0=some (35,0)∧aU prog 385 1=some (3,1)∧aU prog 385 2=some (183,2)∧aU prog 385 3=some (3,9)∧aU prog 385 4=some (9,10)∧ePl prog 385=some [(0,1),(1,1),(2,7),(9,1),(10,1)]:=⟨qC,qC,qC,qC,qC,qC,qC,qC⟩
@[simp] theorem T6:aL prog 385=some [.slice none 0 0,.int .i64 0,.int .i64 0,.string .empty,.string .empty,.int .i64 0,.string .empty,.slice none 0 0,.slice none 0 0,.int .i64 0,.string .empty]∧eSz prog 387=some 1∧aK prog 387=some false∧aP prog 387=false∧aL prog 387=some [.nilFunc]∧eSz prog 391=some 1∧aK prog 391=some false∧aP prog 391=false:=⟨qC,qC,qC,qC,qC,qC,qC,qC⟩
@[simp] theorem U4:nD prog 391=some .i64∧aL prog 391=some [.int .i64 0]∧eSz prog 392=some 1∧aK prog 392=some false∧aP prog 392=false∧eSz prog 394=some 1∧aK prog 394=some false∧aP prog 394=false:=⟨qC,qC,qC,qC,qC,qC,qC,qC⟩
@[simp] theorem U5:kN prog 394=true∧aL prog 394=some [.pointer none]∧eSz prog 397=some 1∧aK prog 397=some false∧aP prog 397=false∧eSz prog 400=some 1∧aK prog 400=some false∧aP prog 400=false:=⟨qC,qC,qC,qC,qC,qC,qC,qC⟩
@[simp] theorem U6:nD prog 400=some .u64∧aL prog 400=some [.int .u64 0]∧eSz prog 404=some 1∧aK prog 404=some false∧aP prog 404=false∧kN prog 404=true∧aL prog 404=some [.pointer none]∧eSz prog 407=some 1:=⟨qC,qC,qC,qC,qC,qC,qC,qC⟩
@[simp] theorem U7:aK prog 407=some false∧aP prog 407=false∧eSz prog 410=some 1∧aK prog 410=some false∧bM prog 410=some (412,2)∧cK prog 412=some 16∧aP prog 410=false∧aL prog 410=some [.slice none 0 0]:=⟨qC,qC,qC,qC,qC,qC,qC,qC⟩
@[simp] theorem Wq:eSz prog 412=some 2∧aK prog 412=some true∧aP prog 412=false∧aU prog 412 0=some (3,0)∧aU prog 412 1=some (3,1)∧ePl prog 412=some [(0,1),(1,1)]∧aL prog 412=some [.int .i64 0,.int .i64 0]∧eSz prog 414=some 1:=⟨qC,qC,qC,qC,qC,qC,qC,qC⟩
@[simp] theorem U8:aK prog 414=some false∧aP prog 414=false∧aL prog 414=some [.pointer none]∧eSz prog 417=some 1∧aK prog 417=some false∧aP prog 417=false∧kN prog 417=true∧aL prog 417=some [.pointer none]:=⟨qC,qC,qC,qC,qC,qC,qC,qC⟩
@[simp] theorem Wr:eSz prog 418=some 1∧aK prog 418=some false∧aP prog 418=false∧aL prog 418=some [.nilFunc]∧eSz prog 421=some 1∧aK prog 421=some false∧aP prog 421=false∧eSz prog 424=some 3:=⟨qC,qC,qC,qC,qC,qC,qC,qC⟩
@[simp] theorem U9:aK prog 424=some true∧aP prog 424=false∧aU prog 424 0=some (9,0)∧aU prog 424 1=some (9,1)∧aU prog 424 2=some (264,2)∧ePl prog 424=some [(0,1),(1,1),(2,1)]∧aL prog 424=some [.string .empty,.string .empty,.nilIface]∧eSz prog 426=some 1:=⟨qC,qC,qC,qC,qC,qC,qC,qC⟩
@[simp] theorem Vg:aK prog 426=some false∧aP prog 426=false∧eSz prog 428=some 1∧aK prog 428=some false∧aP prog 428=false∧eSz prog 430=some 1∧aK prog 430=some false∧aP prog 430=false:=⟨qC,qC,qC,qC,qC,qC,qC,qC⟩
@[simp] theorem Vh:kN prog 430=true∧aL prog 430=some [.pointer none]∧eSz prog 431=some 1∧aK prog 431=some false∧aP prog 431=false∧eSz prog 436=some 256∧aK prog 436=some true∧aP prog 436=false:=⟨qC,qC,qC,qC,qC,qC,qC,qC⟩
@[simp] theorem Vi:vE prog 436=some (5,256,1)∧eSz prog 438=some 2∧aK prog 438=some true∧aP prog 438=false∧aU prog 438 0=some (5,0)∧aU prog 438 1=some (5,1)∧ePl prog 438=some [(0,1),(1,1)]∧aL prog 438=some [.int .u8 0,.int .u8 0]:=⟨qC,qC,qC,qC,qC,qC,qC,qC⟩
@[simp] theorem Ws:eSz prog 439=some 32∧aK prog 439=some true∧aP prog 439=false∧vE prog 439=some (438,16,2)∧ePl prog 439=some [(0,2),(2,2),(4,2),(6,2),(8,2),(10,2),(12,2),(14,2),(16,2),(18,2),(20,2),(22,2),(24,2),(26,2),(28,2),(30,2)]∧aL prog 439=some [.int .u8 0,.int .u8 0,.int .u8 0,.int .u8 0,.int .u8 0,.int .u8 0,.int .u8 0,.int .u8 0,.int .u8 0,.int .u8 0,.int .u8 0,.int .u8 0,.int .u8 0,.int .u8 0,.int .u8 0,.int .u8 0,.int .u8 0,.int .u8 0,.int .u8 0,.int .u8 0,.int .u8 0,.int .u8 0,.int .u8 0,.int .u8 0,.int .u8 0,.int .u8 0,.int .u8 0,.int .u8 0,.int .u8 0,.int .u8 0,.int .u8 0,.int .u8 0]∧eSz prog 440=some 24∧aK prog 440=some true:=⟨qC,qC,qC,qC,qC,qC,qC,qC⟩
@[simp] theorem Vj:aP prog 440=false∧vE prog 440=some (5,24,1)∧aL prog 440=some [.int .u8 0,.int .u8 0,.int .u8 0,.int .u8 0,.int .u8 0,.int .u8 0,.int .u8 0,.int .u8 0,.int .u8 0,.int .u8 0,.int .u8 0,.int .u8 0,.int .u8 0,.int .u8 0,.int .u8 0,.int .u8 0,.int .u8 0,.int .u8 0,.int .u8 0,.int .u8 0,.int .u8 0,.int .u8 0,.int .u8 0,.int .u8 0]∧eSz prog 442=some 1∧aK prog 442=some false∧aP prog 442=false∧eSz prog 444=some 1∧aK prog 444=some false:=⟨qC,qC,qC,qC,qC,qC,qC,qC⟩
@[simp] theorem Vo:aP prog 444=false∧kN prog 444=true∧aL prog 444=some [.pointer none]∧eSz prog 446=some 1∧aK prog 446=some true∧aP prog 446=false∧aU prog 446 0=some (9,0)∧ePl prog 446=some [(0,1)]:=⟨qC,qC,qC,qC,qC,qC,qC,qC⟩
@[simp] theorem T7:aL prog 446=some [.string .empty]∧eSz prog 448=some 20∧aK prog 448=some true∧aP prog 448=false∧vE prog 448=some (353,20,1)∧aL prog 448=some [.int .u64 0,.int .u64 0,.int .u64 0,.int .u64 0,.int .u64 0,.int .u64 0,.int .u64 0,.int .u64 0,.int .u64 0,.int .u64 0,.int .u64 0,.int .u64 0,.int .u64 0,.int .u64 0,.int .u64 0,.int .u64 0,.int .u64 0,.int .u64 0,.int .u64 0,.int .u64 0]∧eSz prog 449=some 65∧aK prog 449=some true:=⟨qC,qC,qC,qC,qC,qC,qC,qC⟩
@[simp] theorem Vp:aP prog 449=false∧vE prog 449=some (5,65,1)∧eSz prog 451=some 32∧aK prog 451=some true∧aP prog 451=false∧vE prog 451=some (5,32,1)∧aL prog 451=some [.int .u8 0,.int .u8 0,.int .u8 0,.int .u8 0,.int .u8 0,.int .u8 0,.int .u8 0,.int .u8 0,.int .u8 0,.int .u8 0,.int .u8 0,.int .u8 0,.int .u8 0,.int .u8 0,.int .u8 0,.int .u8 0,.int .u8 0,.int .u8 0,.int .u8 0,.int .u8 0,.int .u8 0,.int .u8 0,.int .u8 0,.int .u8 0,.int .u8 0,.int .u8 0,.int .u8 0,.int .u8 0,.int .u8 0,.int .u8 0,.int .u8 0,.int .u8 0]∧eSz prog 452=some 64:=⟨qC,qC,qC,qC,qC,qC,qC,qC⟩
@[simp] theorem Vt:aK prog 452=some true∧aP prog 452=false∧vE prog 452=some (5,64,1)∧jJ prog 103 0=some 109∧B5 prog 103=some 0∧kO prog 109=some (.agg #[.slice none 0 0,.map none])∧jJ prog 107 2=some 9∧B5 prog 107=some 2:=⟨qC,qC,qC,qC,qC,qC,qC,qC⟩
@[simp] theorem Vu:kO prog 9=some (.string .empty)∧jJ prog 116 0=some 9∧B5 prog 116=some 0∧jJ prog 145 0=some 4∧B5 prog 145=some 0∧kO prog 4=some (.bool false)∧jJ prog 259 1=some 106∧B5 prog 259=some 1:=⟨qC,qC,qC,qC,qC,qC,qC,qC⟩
@[simp] theorem SJ:kO prog 106=some (.slice none 0 0)∧eEq prog 28=some [1,1,0,0,0,0,0,0,1]∧eEq prog 32=some [0,0]∧eEq prog 34=some [1,0,0,1,1,1,0,0,2]∧eEq prog 43=some [1,2]∧eEq prog 54=some [1,1,1,1,1,2,1,2]∧eEq prog 83=some [1,0,0,0,0]∧eEq prog 87=some [1,0]:=⟨qC,qC,qC,qC,qC,qC,qC,qC⟩
@[simp] theorem Wu:eEq prog 118=some [0,1,0,0,1,1,1,1,1,2,1,2,2]∧eEq prog 127=some [1,1]∧eEq prog 139=some [1,1]∧eEq prog 144=some [0,0,1]∧eEq prog 159=some [0,1]∧eEq prog 179=some [1,0,0]∧eEq prog 220=some [1,1,0,0,2]∧eEq prog 256=some [1,1]:=⟨qC,qC,qC,qC,qC,qC,qC,qC⟩
@[simp] theorem Wv:eEq prog 274=some [1,0]∧eEq prog 279=some [0,0,0,0,0,0]∧eEq prog 362=some [1,0,1,1,1,1,1,2,1,2]∧eEq prog 412=some [0,0]∧eEq prog 438=some [0,0]∧eEq prog 446=some [1]:=⟨qC,qC,qC,qC,qC,qC⟩
end Go.Lw
namespace Go.Proofs.YtdjfgcjlnfnfhaaGreatDoor
open Go.Lw Go.RowKit
set_option maxRecDepth 100000
def IsI (p:Int→Prop) (d:D):Prop:= ∃n:Int,d= .lit (.int .i64 n)∧p n
theorem O9 (y m:Int) (hy:0≤y∧y≤20000) (hm:0≤m∧m≤200):aV Tryz.prog 311 [.lit (.int .i64 y),.lit (.int .i64 m)] (IsI fun n=>28≤n∧n≤31):=by
 refine bI Tryz.func311 rfl qC Tryz.ntmps311 _ rfl qE ?_
 repeat' (first|refine Va ?_|refine aB (ht:=fun hb=>?_) (hf:=fun hb=>?_)|refine Vb ?_|refine Vl (hG:=?_))
 all_goals exact⟨_,rfl,qK⟩
theorem Ij (y m:Int) (hy:1≤y∧y≤20000) (hm:0≤m∧m≤100):aV Tryz.prog 250 [.lit (.int .i64 y),.lit (.int .i64 m)] (IsI fun n=> -800000≤n∧n≤100000000∧364*y-720000≤n):=by
 obtain⟨z,rfl⟩: ∃z:Nat,y=(z:Int)+1:=⟨(y-1).toNat,qD⟩
 refine bI Tryz.func250 rfl qC Tryz.ntmps250 _ rfl qE ?_
 have q1:(z:Int).tdiv 4=((z/4:Nat):Int):=rfl
 have q2:(z:Int).tdiv 100=((z/100:Nat):Int):=rfl
 have q3:(z:Int).tdiv 400=((z/400:Nat):Int):=rfl
 have b1:z/4≤z:=Nat.div_le_self _ _
 have b2:100*(z/100)≤z:=Nat.mul_div_le _ _
 have b3:z/400≤z:=Nat.div_le_self _ _
 generalize z/4=z4 at q1 b1
 generalize z/100=z100 at q2 b2
 generalize z/400=z400 at q3 b3
 repeat' (first|refine Va ?_|refine aB (ht:=fun hb=>?_) (hf:=fun hb=>?_)|refine Vb ?_|refine Vl (hG:=?_))
 refine kV (fun x:Int×Int=>⟨[(0,.d (.lit (.int .i64 ((z:Int)+1)))),(1,.d (.lit (.int .i64 m))),(6,.d (.lit (.int .i64 x.1))),(7,.d (.lit (.int .i64 x.2)))],[]⟩) (fun x=>364*((z:Int)+1)-720000≤x.1∧ -800000≤x.1∧x.1≤20000000+31*x.2∧1≤x.2∧x.2≤m+1) (fun x=>(m-x.2).toNat) (_,1) ⟨?_,?_,?_,?_,?_⟩ (fun C hc=>aC [0,1,6,7] [] qA qA rfl) ?_
 rotate_left 5
 ·rintro L hL ⟨n,k⟩ ⟨h0,h1,h2,h3,h4⟩ hi
  simp only at h0 h1 h2 h3 h4 hi⊢
  repeat' (first|refine Va ?_|refine aB (ht:=fun hb=>?_) (hf:=fun hb=>?_)|refine Vb ?_|refine Vl (hG:=?_)|(refine Ve (hf:=O9 _ _ qD qD) (hk:=?_);rintro _ ⟨x,rfl,hx⟩))
  ·exact Vk [0,1,6,7] [] hL (hi (n+x,k+1) (by simp at hb;simp only;omega) (by simp at hb;simp only;omega))
  ·exact⟨_,rfl,qD,qD,qD⟩
 all_goals simp only
 all_goals omega
def SK (d:D):Prop:= ∃y m x h i s:Int,d= .agg [.lit (.int .i64 y),.lit (.int .i64 m),.lit (.int .i64 x),.lit (.int .i64 h),.lit (.int .i64 i),.lit (.int .i64 s)]∧(1970≤y∧y≤10100)∧(1≤m∧m≤12)∧(-200000000≤x∧x≤200000000)∧(0≤h∧h≤23)∧(0≤i∧i≤59)∧(0≤s∧s≤59)
theorem FI (t:Nat) (ht:t≤253402300799):aV Tryz.prog 170 [.lit (.int .i64 (t:Int))] SK:=by
 refine bI Tryz.func170 rfl qC Tryz.ntmps170 _ rfl qE ?_
 have q1:(t:Int)/86400=((t/86400:Nat):Int):=rfl
 have b1:t/86400≤2932896:=by omega
 have q2:(t:Int).tmod 86400=((t%86400:Nat):Int):=rfl
 have b2:t%86400<86400:=Nat.mod_lt _ qK
 generalize t/86400=day at q1 b1
 generalize t%86400=rest at q2 b2
 have q5:((rest:Int)/60).tmod 60=((rest/60%60:Nat):Int):=rfl
 have q7:(rest:Int).tmod 60=((rest%60:Nat):Int):=rfl
 repeat' (first|refine Va ?_|refine aB (ht:=fun hb=>?_) (hf:=fun hb=>?_)|refine Vb ?_|refine Vl (hG:=?_))
 simp only[q1,q2]
 repeat' (first|refine Va ?_|refine aB (ht:=fun hb=>?_) (hf:=fun hb=>?_)|refine Vb ?_|refine Vl (hG:=?_))
 simp only[q5,q7]
 have b5:((rest/60%60:Nat):Int)≤59:=by omega
 have b6:((rest%60:Nat):Int)≤59:=by omega
 have b7:(0:Int)≤(rest/60%60:Nat):=by omega
 have b8:(0:Int)≤(rest%60:Nat):=by omega
 have b9:(0:Int)≤(rest:Int)/3600∧(rest:Int)/3600≤23:=by omega
 have b10:(0:Int)≤(day:Int)/366∧(day:Int)/366≤8013:=by omega
 generalize ((rest/60%60:Nat):Int)=mi at b5 b7⊢
 generalize ((rest%60:Nat):Int)=se at b6 b8⊢
 generalize (rest:Int)/3600=hr at b9⊢
 generalize (day:Int)/366=y0 at b10⊢
 clear q5 q7 q1 q2
 refine kV (fun y:Int=>⟨[(2,.bp 2 0),(3,.d (.lit (.int .i64 day))),(5,.bp 5 0)],[(2,.box 279 [.d (.lit (.int .i64 0)),.d (.lit (.int .i64 0)),.d (.lit (.int .i64 0)),.d (.lit (.int .i64 0)),.d (.lit (.int .i64 0)),.d (.lit (.int .i64 0))]),(5,.box 279 [.d (.lit (.int .i64 y)),.d (.lit (.int .i64 1)),.d (.lit (.int .i64 0)),.d (.lit (.int .i64 hr)),.d (.lit (.int .i64 mi)),.d (.lit (.int .i64 se))])]⟩) (fun y=>1970≤y∧y≤10100) (fun y=>(10101-y).toNat) _ ⟨?_,?_⟩ (fun C hc=>aC [2,3,5] [2,5] qA qA rfl) ?_
 rotate_left 2
 ·rintro L hL y ⟨h1,h2⟩ hi
  try simp only at h1 h2 hi⊢
  repeat' (first|refine Va ?_|refine aB (ht:=fun hb=>?_) (hf:=fun hb=>?_)|refine Vb ?_|refine Vl (hG:=?_)|(refine Ve (hf:=Ij _ _ qD qD) (hk:=?_);rintro _ ⟨n,rfl,hn⟩))
  ·exact Vk [2,3,5] [2,5] hL (hi (y+1) (by simp at hb;omega) (by simp at hb;omega))
  clear hi hL
  refine kV (fun m:Int=>⟨[(2,.bp 2 0),(3,.d (.lit (.int .i64 day))),(5,.bp 5 0)],[(2,.box 279 [.d (.lit (.int .i64 0)),.d (.lit (.int .i64 0)),.d (.lit (.int .i64 0)),.d (.lit (.int .i64 0)),.d (.lit (.int .i64 0)),.d (.lit (.int .i64 0))]),(5,.box 279 [.d (.lit (.int .i64 y)),.d (.lit (.int .i64 m)),.d (.lit (.int .i64 0)),.d (.lit (.int .i64 hr)),.d (.lit (.int .i64 mi)),.d (.lit (.int .i64 se))])]⟩) (fun m=>1≤m∧m≤12) (fun m=>(12-m).toNat) 1 ⟨qK,qK⟩ (fun C hc=>aC [2,3,5] [2,5] qA qA rfl) ?_
  rintro L hL m ⟨h3,h4⟩ hi
  repeat' (first|refine Va ?_|refine aB (ht:=fun hb=>?_) (hf:=fun hb=>?_)|refine Vb ?_|refine Vl (hG:=?_)|(refine Ve (hf:=Ij _ _ qD qD) (hk:=?_);rintro _ ⟨n,rfl,hn⟩))
  ·exact Vk [2,3,5] [2,5] hL (hi (m+1) (by simp at hb;omega) (by simp at hb;omega))
  ·exact⟨_,_,_,_,_,_,rfl,qD,qD,qD,qD,qD,qD⟩
 all_goals omega
end Go.Proofs.YtdjfgcjlnfnfhaaGreatDoor
