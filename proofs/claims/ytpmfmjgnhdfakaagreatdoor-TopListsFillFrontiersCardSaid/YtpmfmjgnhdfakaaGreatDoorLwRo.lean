/-
  OPERATIONS THAT ONLY READ, on list-level states: 'ro' reckons the value and what has to hold; 'ro_sound': the model's operation yields it, in every world in which the old blocks are the same.
-/
import Derived.Test.YtpmfmjgnhdfakaaGreatDoorLwBase
import Derived.LaidEqlPtr
import Derived.Laws.BytesArg
import Derived.Laws.StructEq
import Derived.Lib.Builder
set_option linter.unusedSimpArgs false
set_option linter.unusedVariables false
namespace Go.Lw
open Go.RowKit

def eSz (P : Program) (t : TypeId) : Option Nat := (P.info? t).map (·.size)
def eBytes (P : Program) (t : TypeId) : Option Nat := (P.info? t).map (·.bytes)
def eAgg (P : Program) (t : TypeId) : Option Bool :=
  match P.underlying t with
  | some (.struct _) | some (.array _ _) => some true
  | some _ => some false
  | none => none
def eElem (P : Program) (t : TypeId) : Option (TypeId × Nat) :=
  match P.underlying t with
  | some (.slice e) => (P.info? e).map fun i => (e, i.size)
  | _ => none
def ePtr (P : Program) (t : TypeId) : Bool :=
  match P.underlying t with
  | some (.pointer e) => match P.info? e with | some i => i.size != 0 | none => false
  | _ => false
def eArr (P : Program) (t : TypeId) : Option (TypeId × Nat × Nat) :=
  match P.underlying t with
  | some (.array n e) => (P.info? e).map fun i => (e, n, i.size)
  | _ => none
def eStr (P : Program) (t : TypeId) : Bool := match P.underlying t with | some .string => true | _ => false
def eBool (P : Program) (t : TypeId) : Bool := match P.underlying t with | some .bool => true | _ => false
def eInt (P : Program) (t : TypeId) : Option IntKind := match P.underlying t with | some (.int k) => some k | _ => none
def eFld (P : Program) (t : TypeId) (f : Nat) : Option (TypeId × Nat) :=
  match P.underlying t with
  | some (.struct fields) => match fields[f]? with
    | some fl => match (P.info? fl.type).map (·.size) with
      | some 0 => none
      | some _ => some (fl.type, fl.offset)
      | none => none
    | none => none
  | _ => none

/-- What a slot holds, for an operation that is carried out only if g. -/
def unw (g : Bool) : V → V
  | .when g' x => if g = true → g' = true then x else .any
  | x => x
def ev (g : Bool) (st : St) : Operand → Option V
  | .tmp t => (look t st.slots).map (unw g)
  | .const v => some (.d (.lit v))
  | .func f => some (.d (.lit (.func (.func f) #[] #[])))
  | .global _ => none

/-- A number that its kind holds. -/
def inR (k : IntKind) (n : Int) : Prop := k.min ≤ n ∧ n ≤ k.max

def eArith (op : BinOp) (k : IntKind) (x y : Int) : Option (Value × Prop) :=
  match op with
  | .add => some (.int k (x + y), inR k (x + y))
  | .sub => some (.int k (x - y), inR k (x - y))
  | .mul => some (.int k (x * y), inR k (x * y))
  | .quo => some (.int k (x.tdiv y), y ≠ 0 ∧ inR k (x.tdiv y))
  | .rem => some (.int k (x.tmod y), y ≠ 0)
  | .eql => some (.bool (x == y), True)
  | .neq => some (.bool (x != y), True)
  | .lss => some (.bool (decide (x < y)), True)
  | .leq => some (.bool (decide (x ≤ y)), True)
  | .gtr => some (.bool (decide (y < x)), True)
  | .geq => some (.bool (decide (y ≤ x)), True)
  | .and => some (.int k (k.wrap ((BitVec.ofInt k.bits x &&& BitVec.ofInt k.bits y).toNat)), True)
  | .or => some (.int k (k.wrap ((BitVec.ofInt k.bits x ||| BitVec.ofInt k.bits y).toNat)), True)
  | _ => none
/-- A shift: the kinds may differ. -/
def eShift (op : BinOp) (k : IntKind) (x y : Int) : Option (Value × Prop) :=
  match op with
  | .shl => some (.int k (k.wrap (x * 2 ^ (min y.toNat k.bits))), 0 ≤ y)
  | .shr => some (.int k (x.fdiv (2 ^ (min y.toNat k.bits))), 0 ≤ y)
  | _ => none
def eText (op : BinOp) (x y : ByteArray) : Option (Value × Prop) :=
  match op with
  | .add => some (.string (x ++ y), ((x.size + y.size : Nat) : Int) ≤ 9223372036854775807)
  | .eql => some (.bool (x.toList == y.toList), True)
  | .neq => some (.bool (!(x.toList == y.toList)), True)
  | .lss => some (.bool (Op.bytesLess x.toList y.toList), True)
  | .leq => some (.bool (Op.bytesLess x.toList y.toList || x.toList == y.toList), True)
  | .gtr => some (.bool (!(Op.bytesLess x.toList y.toList || x.toList == y.toList)), True)
  | .geq => some (.bool (!Op.bytesLess x.toList y.toList), True)
  | _ => none
def eTruth (op : BinOp) (x y : Bool) : Option (Value × Prop) :=
  match op with
  | .eql => some (.bool (x == y), True)
  | .neq => some (.bool (!(x == y)), True)
  | _ => none
def eSame (op : BinOp) (b : Bool) : Option (V × Prop) :=
  match op with
  | .eql => some (.d (.lit (.bool b)), True)
  | .neq => some (.d (.lit (.bool (!b))), True)
  | _ => none
/-! Structs, compared. -/
/-- The sorts of the cells of a type whose values '==' can tell (0 number, 1 string, 2 truth). -/
def eqFs (F : TypeId → Option (List Nat)) (P : Program) : List Field → Nat → Option (List Nat)
  | [], _ => some []
  | fl :: fs, off => if fl.name ≠ "_" ∧ fl.offset = off then match F fl.type, eSz P fl.type with
      | some s, some n => if n = s.length then (eqFs F P fs (off + n)).map (s ++ ·) else none
      | _, _ => none
    else none
def eqSorts (P : Program) : Nat → TypeId → Option (List Nat)
  | 0, _ => none
  | d + 1, t => match P.underlying t with
    | some (.int _) => some [0]
    | some .string => some [1]
    | some .bool => some [2]
    | some (.struct fs) => if P.stoodInHeld t then none else eqFs (eqSorts P d) P fs.toList 0
    | _ => none
def eEq (P : Program) (t : TypeId) : Option (List Nat) := if P.eqGuardType P.depth t then none else match P.underlying t with | some (.struct _) => eqSorts P 9 t | _ => none
def litL : List D → Option (List Value)
  | [] => some []
  | .lit v :: r => (litL r).map (v :: ·)
  | _ :: _ => none
def eqCell : Nat → Value → Value → Option Bool
  | 0, .int k a, .int k' b => if k = k' then some (a == b) else none
  | 1, .string a, .string b => some (a.toList == b.toList)
  | 2, .bool a, .bool b => some (a == b)
  | _, _, _ => none
def eqVals : List Nat → List Value → List Value → Option Bool
  | [], [], [] => some true
  | s :: ss, x :: xs, y :: ys => match eqCell s x y, eqVals ss xs ys with
    | some b, some c => some (b && c)
    | _, _ => none
  | _, _, _ => none
def roBin (P : Program) (op : BinOp) (t : TypeId) : Option V → Option V → Option (V × Prop)
  | some (.d (.lit (.int k x))), some (.d (.lit (.int k' y))) => match eShift op k x y with
    | some r => some (.d (.lit r.1), r.2)
    | none => if k = k' then (eArith op k x y).map fun r => (.d (.lit r.1), r.2) else none
  | some (.d (.lit (.string x))), some (.d (.lit (.string y))) => (eText op x y).map fun r => (.d (.lit r.1), r.2)
  | some (.d (.lit (.bool x))), some (.d (.lit (.bool y))) => if eBool P t then (eTruth op x y).map fun r => (.d (.lit r.1), r.2) else none
  | some (.d (.lit (.pointer none))), some (.d (.lit (.pointer none))) => if ePtr P t then eSame op true else none
  | some (.bp _ _), some (.d (.lit (.pointer none))) => if ePtr P t then eSame op false else none
  | some (.d (.lit (.pointer none))), some (.bp _ _) => if ePtr P t then eSame op false else none
  | some (.bp id off), some (.bp id' off') => if ePtr P t && id == id' && off == off' then eSame op true else none
  | some (.d (.agg xs)), some (.d (.agg ys)) => match eEq P t, litL xs, litL ys with
    | some s, some X, some Y => match eqVals s X Y with
      | some b => eSame op b
      | none => none
    | _, _, _ => none
  | _, _ => none
def roUn (op : UnOp) : Option V → Option (V × Prop)
  | some (.d (.lit (.bool b))) => match op with | .not => some (.d (.lit (.bool (!b))), True) | _ => none
  | some (.d (.lit (.int k n))) => match op with | .neg => some (.d (.lit (.int k (0 - n))), inR k (0 - n)) | _ => none
  | _ => none
def roPick (c : Bool) : Option V → Option V → Option (V × Prop)
  | some x, some y => match x, y with
    | .d (.lit (.bool x)), .d (.lit (.bool y)) => some (.d (.lit (.bool (bif c then x else y))), True)
    | x, y => some (bif c then x else y, True)
  | _, _ => none
def allD : List V → Option (List D)
  | [] => some []
  | .d x :: r => (allD r).map (x :: ·)
  | _ :: _ => none
def mkAgg (cs : List V) : V := match allD cs with | some ds => .d (.agg ds) | none => .vagg cs
def roField (P : Program) (t : TypeId) (f : Nat) : Option V → Option (V × Prop)
  | some (.d (.agg cs)) => match eFld P t f with
    | some (ft, o) => match eAgg P ft, eSz P ft with
      | some true, some n => if o + n ≤ cs.length then some (.d (.agg ((cs.drop o).take n)), True) else none
      | some false, _ => (cs[o]?).map fun x => (.d x, True)
      | _, _ => none
    | none => none
  | some (.vagg cs) => match eFld P t f with
    | some (ft, o) => match eAgg P ft, eSz P ft with
      | some true, some n => if o + n ≤ cs.length then some (mkAgg ((cs.drop o).take n), True) else none
      | some false, _ => (cs[o]?).map fun x => (x, True)
      | _, _ => none
    | none => none
  | _ => none
def roFieldAddr (P : Program) (t : TypeId) (f : Nat) : Option V → Option (V × Prop)
  | some (.bp id off) => (eFld P t f).map fun r => (.bp id (off + r.2), True)
  | some (.el id i off) => (eFld P t f).map fun r => (.el id i (off + r.2), True)
  | some (.d (.ip cs off)) => (eFld P t f).map fun r => (.d (.ip cs (off + r.2)), True)
  | _ => none
def loadV (P : Program) (t : TypeId) (cells : List V) : Option V :=
  match eAgg P t, eSz P t with
  | some true, some n => if n ≤ cells.length then some (mkAgg (cells.take n)) else none
  | some false, _ => cells.head?
  | _, _ => none
def roLoad (P : Program) (objs : List (Nat × O)) (t : TypeId) : Option V → Option (V × Prop)
  | some (.bp id off) => match look id objs with
    | some (.box _ cells) => (loadV P t (cells.drop off)).map fun x => (x, True)
    | _ => none
  | some (.el id i off) => match look id objs with
    | some (.own _ _ gr es) => (loadV P t (((es.getD i gr.2).drop off).map V.d)).map fun x => (x, i < es.length)
    | _ => none
  | some (.d (.ip cs off)) => (loadV P t ((cs.drop off).map V.d)).map fun x => (x, True)
  | _ => none
def roIndexAddr (P : Program) (objs : List (Nat × O)) (t : TypeId) : Option V → Option V → Option (V × Prop)
  | some (.d (.sl n f)), some (.d (.lit (.int _ i))) => (eElem P t).map fun r => (.d (.ip (f i.toNat) 0), 0 ≤ i ∧ i < n ∧ (f i.toNat).length = r.2)
  | some (.os id n), some (.d (.lit (.int _ i))) => match look id objs, eElem P t with
    | some (.own _ sz _ es), some r => some (.el id i.toNat 0, 0 ≤ i ∧ i < n ∧ n ≤ es.length ∧ sz = r.2)
    | _, _ => none
  | some (.bp id off), some (.d (.lit (.int _ i))) => (eArr P t).map fun r => (.bp id (off + i.toNat * r.2.2), 0 ≤ i ∧ i < r.2.1)
  | some (.d (.ip cs off)), some (.d (.lit (.int _ i))) => (eArr P t).map fun r => (.d (.ip cs (off + i.toNat * r.2.2)), 0 ≤ i ∧ i < r.2.1)
  | _, _ => none
def roNil : Option V → Option (V × Prop)
  | some (.bp id off) => some (.bp id off, True)
  | some (.el id i off) => some (.el id i off, True)
  | some (.d (.ip cs off)) => some (.d (.ip cs off), True)
  | _ => none
def allR (R : Operand → Option V) : List Operand → Option (List V)
  | [] => some []
  | x :: r => match R x, allR R r with
    | some v, some vs => some (v :: vs)
    | _, _ => none
def mkFn (fn : Fn) (cs : List V) : V := match cs with
  | [] => .d (.lit (.func fn #[] #[]))
  | c :: r => match allD (c :: r) with | some ds => .d (.clo fn ds) | none => .vclo fn (c :: r)
def byteAt (s : ByteArray) (i : Nat) : UInt8 := s.data.toList.getD i 0
def roIndex (P : Program) (t : TypeId) : Option V → Option V → Option (V × Prop)
  | some (.d (.lit (.string s))), some (.d (.lit (.int _ i))) => if eStr P t then some (.d (.lit (.int .u8 ((byteAt s i.toNat).toNat : Int))), 0 ≤ i ∧ i < s.size) else none
  | _, _ => none
def bnd (dflt : Int) : Option (Option V) → Option Int
  | none => some dflt
  | some (some (.d (.lit (.int _ i)))) => some i
  | _ => none
def roSlice (P : Program) (objs : List (Nat × O)) (t : TypeId) (lo hi : Option (Option V)) : Option V → Option (V × Prop)
  | some (.d (.lit (.string s))) => match eStr P t, bnd 0 lo, bnd s.size hi with
    | true, some l, some h => some (.d (.lit (.string (s.extract l.toNat h.toNat))), 0 ≤ l ∧ l ≤ h ∧ h ≤ s.size)
    | _, _, _ => none
  | some (.d (.sl n f)) => match eElem P t, bnd 0 lo, bnd n hi with
    | some r, some l, some h => some (.d (.sl (h.toNat - l.toNat) fun i => f (l.toNat + i)), 0 ≤ l ∧ l ≤ h ∧ h ≤ n ∧ ∀ i, i < n → (f i).length = r.2)
    | _, _, _ => none
  | some (.os id n) => match look id objs, eElem P t, lo, bnd n hi with
    | some (.own _ _ _ es), some _, none, some h => some (.os id h.toNat, 0 ≤ h ∧ h ≤ n ∧ n ≤ es.length)
    | some (.own _ sz _ es), some r, some (some (.d (.lit (.int _ l)))), some h => if sz = r.2 then some (.ot id l.toNat (h.toNat - l.toNat), 0 ≤ l ∧ l ≤ h ∧ (h ≤ n ∨ h ≤ es.length)) else none
    | _, _, _, _ => none
  | some (.d (.lit (.slice none 0 0))) => match eElem P t, lo, bnd 0 hi with
    | some _, none, some h => some (.d (.lit (.slice none 0 0)), h = 0)
    | _, _, _ => none
  | _ => none
def roSlice3 (P : Program) (objs : List (Nat × O)) (t : TypeId) (lo hi : Option (Option V)) (mx : Option V) : Option V → Option (V × Prop)
  | some (.os id n) => match look id objs, eElem P t, bnd 0 lo, hi, mx with
    | some (.own _ _ _ _), some _, some l, some (some (.d (.lit (.int _ h)))), some (.d (.lit (.int _ m))) => some (.any, 0 ≤ l ∧ l ≤ h ∧ h ≤ m ∧ m ≤ n)
    | _, _, _, _, _ => none
  | _ => none
def roLen (P : Program) (t : TypeId) : Option V → Option (V × Prop)
  | some (.d (.lit (.string s))) => if eStr P t then some (.d (.lit (.int .i64 s.size)), True) else none
  | some (.d (.sl n _)) => (eElem P t).map fun _ => (.d (.lit (.int .i64 n)), True)
  | some (.os _ n) => (eElem P t).map fun _ => (.d (.lit (.int .i64 n)), True)
  | some (.d (.lit (.slice none 0 0))) => (eElem P t).map fun _ => (.d (.lit (.int .i64 0)), True)
  | _ => none
def roCap (P : Program) (t : TypeId) : Option V → Option (V × Prop)
  | some (.d (.lit (.slice none 0 0))) => (eElem P t).map fun _ => (.d (.lit (.int .i64 0)), True)
  | _ => none
/-! Maps of strings. -/
def eMapS (P : Program) (t : TypeId) : Option TypeId := match P.underlying t with
  | some (.map k e) => match P.underlying k with
    | some .string => some e
    | _ => none
  | _ => none
def eZeroV (P : Program) (t : TypeId) : Option Value := (P.info? t).bind fun i => i.zero
def dget (z : D) : List (List UInt8 × D) → List UInt8 → D
  | [], _ => z
  | (k', d) :: r, k => if k' = k then d else dget z r k
def dhas : List (List UInt8 × D) → List UInt8 → Bool
  | [], _ => false
  | (k', _) :: r, k => if k' = k then true else dhas r k
def didx : List (List UInt8 × D) → List UInt8 → Nat
  | [], _ => 0
  | (k', _) :: r, k => if k' = k then 0 else didx r k + 1
def roLookup (P : Program) (objs : List (Nat × O)) (t : TypeId) (commaOk : Bool) : Option V → Option V → Option (V × Prop)
  | some (.mp id), some (.d (.lit (.string s))) => match look id objs, (eMapS P t).bind (eZeroV P) with
    | some (.dict L), some z => some (bif commaOk then .d (.tup [dget (.lit z) L s.data.toList, .lit (.bool (dhas L s.data.toList))]) else .d (dget (.lit z) L s.data.toList), True)
    | _, _ => none
  | _, _ => none
def roMinMax (least : Bool) : Option V → Option V → Option (V × Prop)
  | some (.d (.lit (.int k x))), some (.d (.lit (.int _ y))) => some (.d (.lit (.int k (if least then (if y < x then y else x) else (if x < y then y else x)))), True)
  | _, _ => none
def roConv (P : Program) (s t : TypeId) : Option V → Option (V × Prop)
  | some (.d (.lit (.int _ n))) => match eInt P s, eInt P t with
    | some _, some k => some (.d (.lit (.int k n)), inR k n)
    | some _, none => if eStr P t then some (.d (.lit (.string (Utf8.encode n))), True) else none
    | _, _ => none
  | some (.d (.lit (.string x))) => if eStr P s && eStr P t then some (.d (.lit (.string x)), True) else none
  | _ => none
/-- A string, by its bytes; bytes as rows of cells. -/
def bs (l : List UInt8) : ByteArray := ⟨⟨l⟩⟩
def byteRow (b : UInt8) : List D := [.lit (.int .u8 (b.toNat : Int))]
/-- A row of one byte. -/
def isRow (r : List D) : Prop := ∃ b, r = byteRow b
def oneByte : List D → UInt8
  | [.lit (.int .u8 n)] => UInt8.ofNat n.toNat
  | _ => 0
def bytesB (P : Program) (t : TypeId) : Bool := match eElem P t with | some (e, 1) => eInt P e == some .u8 | _ => false
def roConvB (P : Program) (objs : List (Nat × O)) (s t : TypeId) : Option V → Option (V × Prop)
  | some (.d (.sl n f)) => if bytesB P s && eStr P t then some (.d (.lit (.string (bs ((List.range n).map fun i => oneByte (f i))))), ∀ i, i < n → isRow (f i)) else none
  | some (.os id n) => match look id objs with
    | some (.own _ _ _ es) => if bytesB P s && eStr P t then some (.d (.lit (.string (bs ((es.take n).map oneByte)))), n ≤ es.length ∧ ∀ l ∈ es.take n, isRow l) else none
    | _ => none
  | some (.d (.lit (.slice none 0 0))) => if bytesB P s && eStr P t then some (.d (.lit (.string (bs []))), True) else none
  | _ => none
def orR (x y : Option (V × Prop)) : Option (V × Prop) := match x with | some r => some r | none => y
def roFunc (fn : Fn) : List (Option V) → Option (V × Prop)
  | [] => some (.d (.lit (.func fn #[] #[])), True)
  | _ => none

/-- The cells of a value. -/
def cellsV : V → List V
  | .d (.agg ds) => ds.map V.d
  | .vagg cs => cs
  | x => [x]
def oneV : V → Bool
  | .d (.lit v) => v.oneCell'
  | .d (.sl ..) | .d (.ip ..) | .d (.clo ..) | .bp .. | .el .. | .os .. | .ot .. | .mp .. | .vclo .. => true
  | _ => false
/-- The parts of a literal laid into its cells. -/
def fillV (pl : List (Nat × Nat)) : List V → List (Nat × Option V) → Option (List V)
  | cells, [] => some cells
  | cells, (i, some x) :: rest => match pl[i]? with
    | some (off, size) => if (cellsV x).all oneV && (cellsV x).length == size && decide (off + size ≤ cells.length) then fillV pl (cells.take off ++ cellsV x ++ cells.drop (off + size)) rest else none
    | none => none
  | _, (_, none) :: _ => none
def ePl (P : Program) (t : TypeId) : Option (List (Nat × Nat)) :=
  match P.underlying t with
  | some (.struct fs) => fs.toList.mapM fun f => (eSz P f.type).map fun n => (f.offset, n)
  | some (.array n e) => (eSz P e).map fun s => (List.range n).map fun i => (i * s, s)
  | _ => none
def eZero (P : Program) (t : TypeId) : Option (List Value) := (P.info? t).bind fun i => i.zero.map fun z => z.cells.toList
def litsV (zs : List Value) : List V := zs.map fun z => .d (.lit z)
def roBuild (P : Program) (t : TypeId) (parts : List (Nat × Option V)) : Option (V × Prop) :=
  match eZero P t, ePl P t with
  | some zs, some pl => match fillV pl (litsV zs) parts with
    | some cells => some (mkAgg cells, True)
    | none => none
  | _, _ => none

def ro (P : Program) (R : Bool → Operand → Option V) (g : Bool) (objs : List (Nat × O)) : Op → Option (V × Prop)
  | .move x | .assign x => (R g x).map fun v => (v, True)
  | .pick c x y => match R g c with
    | some (.d (.lit (.bool b))) => roPick b (R (g && b) x) (R (g && !b) y)
    | _ => none
  | .binOp op t x y _ => roBin P op t (R g x) (R g y)
  | .unOp op _ x => roUn op (R g x)
  | .field t x f => roField P t f (R g x)
  | .fieldAddr t x f => roFieldAddr P t f (R g x)
  | .load t x => roLoad P objs t (R g x)
  | .indexAddr t x i => roIndexAddr P objs t (R g x) (R g i)
  | .build t parts => roBuild P t (parts.toList.map fun q => (q.1, R g q.2))
  | .index t x i => roIndex P t (R g x) (R g i)
  | .lookup t x i b => roLookup P objs t b (R g x) (R g i)
  | .slice t x lo hi none => roSlice P objs t (lo.map (R g)) (hi.map (R g)) (R g x)
  | .slice t x lo hi (some m) => roSlice3 P objs t (lo.map (R g)) (hi.map (R g)) (R g m) (R g x)
  | .convert s t x => orR (roConv P s t (R g x)) (roConvB P objs s t (R g x))
  | .nilCheck x => roNil (R g x)
  | .makeFunc fn first caps => if first.isEmpty then (allR (R g) caps.toList).map fun cs => (mkFn fn cs, True) else none
  | .extract x i => match R g x with
    | some (.d (.tup cs)) => (cs[i]?).map fun y => (.d y, True)
    | some (.vtup cs) => (cs[i]?).map fun y => (y, True)
    | _ => none
  | .call c => match c.callee with
    | .builtin .len => match c.args.toList, c.argTypes.toList with
      | [x], [t] => roLen P t (R g x)
      | _, _ => none
    | .builtin .cap => match c.args.toList, c.argTypes.toList with
      | [x], [t] => roCap P t (R g x)
      | _, _ => none
    | .builtin .min => match c.args.toList with | [x, y] => roMinMax true (R g x) (R g y) | _ => none
    | .builtin .max => match c.args.toList with | [x, y] => roMinMax false (R g x) (R g y) | _ => none
    | _ => none
  | _ => none

/-! Soundness. -/
section
variable {C : Ctx} {st : St} {ok : Nat → Prop} {h : Nat → Hd} {a : Act} {w : World}

theorem unw_sound {g : Bool} (hg : g = true) {y : V} {v : Value} (hy : RdV w ok h y v) : RdV w ok h (unw g y) v := by
  unfold unw
  split
  · rename_i g' x
    split
    · rename_i hi
      cases hy with | when _ _ _ ht _ => exact ht (hi hg)
    · exact .any v
  · exact hy

theorem ev_sound {g : Bool} (hg : g = true) (r : Rep C st ok h a w) {x : Operand} {y : V} (he : ev g st x = some y) : RdV w ok h y (a.eval x) := by
  cases x with
  | tmp t =>
    obtain ⟨z, hz, rfl⟩ := Option.map_eq_some_iff.1 he
    obtain ⟨_, v, hv, hr⟩ := r.slot t z hz
    have : a.eval (.tmp t) = v := by simp [Act.eval, Array.getD_eq_getD_getElem?, hv]
    rw [this]; exact unw_sound hg hr
  | const v => cases he; exact .d _ _ (.lit v)
  | func f => cases he; exact .d _ _ (.lit _)
  | global g => cases he

/-- What a read-only operation does. -/
def Yields (C : Ctx) (w : World) (ok : Nat → Prop) (h : Nat → Hd) (a : Act) (o : Oper) (x : V) : Prop :=
  ∃ v, RdV w ok h x v ∧ ∀ w', (∀ b, b < w.heap.size → w'.heap[b]? = w.heap[b]?) → (execOp a.eval o).run C.P w' = .ok (.value v) w'

theorem lit_of {y : Value} {v : Value} (hr : RdV w ok h (.d (.lit y)) v) : v = y := by
  cases hr with | d _ _ hx => cases hx; rfl

theorem inR_wrap {k : IntKind} {n : Int} (hn : inR k n) : k.wrap n = n := by
  obtain ⟨h1, h2⟩ := hn
  cases k <;> simp [IntKind.min, IntKind.max, IntKind.signed, IntKind.bits] at h1 h2 <;> simp only [IntKind.wrap, IntKind.signed, IntKind.bits] <;> simp <;> omega
end
section
variable {C : Ctx} {st : St} {ok : Nat → Prop} {h : Nat → Hd} {a : Act} {w : World} {o : Oper} {x : V} {p : Prop} {E : Operand → Option V}

/-- The operands read as E says. -/
def Tells (w : World) (ok : Nat → Prop) (h : Nat → Hd) (a : Act) (E : Operand → Option V) : Prop := ∀ x y, E x = some y → RdV w ok h y (a.eval x)

theorem yields_lit (y : Value) (hr : ∀ w', (execOp a.eval o).run C.P w' = .ok (.value y) w') : Yields C w ok h a o (.d (.lit y)) :=
  ⟨y, .d _ _ (.lit y), fun w' _ => hr w'⟩

theorem eArith_sound {op : BinOp} {k : IntKind} {n m : Int} {v : Value} (he : eArith op k n m = some (v, p)) (hp : p) (t : TypeId) (P : Program) (w' : World) (h1 : op ≠ .shl) (h2 : op ≠ .shr) :
    (binOp op t (.int k n) (.int k m)).run P w' = .ok v w' := by
  cases op <;> first | (cases he; done) | (obtain ⟨rfl, rfl⟩ := Prod.mk.inj (Option.some.inj he); first | (simp [binOp, Op.intCmp]; done) | (simp [binOp, Op.intBits]; done) | (have hw := inR_wrap hp; simp [binOp, Op.intArith, hw]; done) | (simp [binOp, Op.intDiv, hp]; done) | (have h0 := hp.1; have hw := inR_wrap hp.2; simp [binOp, Op.intDiv, h0, hw]; done))
theorem eShift_sound {op : BinOp} {k : IntKind} {n m : Int} {v : Value} (he : eShift op k n m = some (v, p)) (hp : p) (yk : IntKind) (t : TypeId) (P : Program) (w' : World) :
    (binOp op t (.int k n) (.int yk m)).run P w' = .ok v w' := by
  cases op <;> first
    | (cases he; done)
    | (obtain ⟨rfl, rfl⟩ := Prod.mk.inj (Option.some.inj he)
       have hm : ¬ m < 0 := by omega
       simp only [binOp, Op.shift, if_neg hm, Sem.run_pure])
theorem eText_sound {op : BinOp} {n m : ByteArray} {v : Value} (he : eText op n m = some (v, p)) (hp : p) (t : TypeId) (P : Program) (w' : World) :
    (binOp op t (.string n) (.string m)).run P w' = .ok v w' := by
  cases op <;> first
    | (cases he; done)
    | (obtain ⟨rfl, rfl⟩ := Prod.mk.inj (Option.some.inj he)
       first
         | (simp [binOp, Op.stringOp]; done)
         | (have hm : ¬ (((n.size + m.size : Nat) : Int) > IntKind.i64.max) := by simp only [IntKind.max, IntKind.signed, IntKind.bits]; simp; omega
            simp only [binOp, Op.stringOp, if_neg hm, Sem.run_pure]))
theorem eTruth_sound {op : BinOp} {n m : Bool} {v : Value} (he : eTruth op n m = some (v, p)) (_hp : p) (t : TypeId) (P : Program) (hb : eBool P t = true) (w' : World) :
    (binOp op t (.bool n) (.bool m)).run P w' = .ok v w' := by
  have hu : P.underlying t = some .bool := by
    unfold eBool at hb
    split at hb <;> simp_all
  cases op <;> first | (cases he; done) | (obtain ⟨rfl, rfl⟩ := Prod.mk.inj (Option.some.inj he); (have e := run_equal_bool (P := P) w' t n m hu; simp [binOp, e]))

theorem ePtr_spec {P : Program} {t : TypeId} (h : ePtr P t = true) : ∃ e i, P.underlying t = some (.pointer e) ∧ P.info? e = some i ∧ i.size ≠ 0 := by
  unfold ePtr at h
  split at h
  · rename_i e hu
    split at h
    · rename_i i hi
      exact ⟨e, i, hu, hi, by simpa using h⟩
    · cases h
  · cases h
theorem run_eq_nil {P : Program} {t : TypeId} (h : ePtr P t = true) (q : Option Addr) (w' : World) : (binOp .eql t (.pointer q) (.pointer none)).run P w' = .ok (.bool q.isNone) w' ∧ (binOp .neq t (.pointer q) (.pointer none)).run P w' = .ok (.bool (!q.isNone)) w' := by
  obtain ⟨e, i, hu, hi, hz⟩ := ePtr_spec h
  have key : ∀ d : Nat, (Op.equalIn (d + 1) t (.pointer q) (.pointer none)).run P w' = .ok q.isNone w' := fun d => by
    cases q <;> simp [Op.equalIn, run_underlying hu]
  constructor <;> (simp only [binOp]; simp [Op.equal, Op.maxDepth, key 9999])
theorem run_nil_eq {P : Program} {t : TypeId} (h : ePtr P t = true) (q : Option Addr) (w' : World) : (binOp .eql t (.pointer none) (.pointer q)).run P w' = .ok (.bool q.isNone) w' ∧ (binOp .neq t (.pointer none) (.pointer q)).run P w' = .ok (.bool (!q.isNone)) w' := by
  obtain ⟨e, i, hu, hi, hz⟩ := ePtr_spec h
  have key : ∀ d : Nat, (Op.equalIn (d + 1) t (.pointer none) (.pointer q)).run P w' = .ok q.isNone w' := fun d => by
    cases q <;> simp [Op.equalIn, run_underlying hu]
  constructor <;> (simp only [binOp]; simp [Op.equal, Op.maxDepth, key 9999])
theorem run_ptr_same {P : Program} {t : TypeId} (h : ePtr P t = true) (q : Addr) (w' : World) : (binOp .eql t (.pointer (some q)) (.pointer (some q))).run P w' = .ok (.bool true) w' ∧ (binOp .neq t (.pointer (some q)) (.pointer (some q))).run P w' = .ok (.bool false) w' := by
  obtain ⟨e, i, hu, hi, hz⟩ := ePtr_spec h
  have key : ∀ d : Nat, (Op.equalIn (d + 1) t (.pointer (some q)) (.pointer (some q))).run P w' = .ok true w' := fun d => by
    simp [Op.equalIn, run_underlying hu, sizeOf, typeInfo, hi, run_sameAddr_same]
  constructor <;> (simp only [binOp]; simp [Op.equal, Op.maxDepth, key 9999])
theorem eSz_spec {P : Program} {t : TypeId} {n : Nat} (he : eSz P t = some n) : ∃ i, P.info? t = some i ∧ i.size = n := Option.map_eq_some_iff.1 he
theorem run_isAgg {P : Program} {t : TypeId} {b : Bool} (he : eAgg P t = some b) (w' : World) : (isAgg t).run P w' = .ok b w' := by
  unfold eAgg at he
  unfold isAgg
  split at he
  · rename_i f hu
    cases he; simp [run_underlying hu]
  · rename_i f hu
    cases he; simp [run_underlying hu]
  · rename_i d hu hn
    cases he
    rename_i h1 h2
    simp only [Sem.run_bind, run_underlying hn, Result.andThen_ok]
    first | rfl | (split <;> first | rfl | simp_all)
  · cases he
theorem run_sizeOf {P : Program} {t : TypeId} {n : Nat} (he : eSz P t = some n) (w' : World) : (sizeOf t).run P w' = .ok n w' := by
  obtain ⟨i, hi, hs⟩ := eSz_spec he
  simp [sizeOf, typeInfo, hi, hs]
/-- A value of a type, by its cells. -/
def AsV (P : Program) (t : TypeId) (X : List Value) (v : Value) : Prop := (eAgg P t = some true ∧ v = .agg X.toArray) ∨ (eAgg P t = some false ∧ X = [v])
theorem eqVals_len {s : List Nat} {X Y : List Value} {b : Bool} (h : eqVals s X Y = some b) : X.length = s.length ∧ Y.length = s.length := by
  induction s generalizing X Y b with
  | nil => cases X <;> cases Y <;> simp_all [eqVals]
  | cons n s ih =>
    cases X with
    | nil => simp [eqVals] at h
    | cons x X => cases Y with
      | nil => simp [eqVals] at h
      | cons y Y =>
        simp only [eqVals] at h
        split at h
        · rename_i b c h1 h2
          have := ih h2
          simp [this.1, this.2]
        · cases h
theorem eqVals_append {s r : List Nat} {X Y : List Value} {b : Bool} (h : eqVals (s ++ r) X Y = some b) : ∃ b1 b2, eqVals s (X.take s.length) (Y.take s.length) = some b1 ∧ eqVals r (X.drop s.length) (Y.drop s.length) = some b2 ∧ b = (b1 && b2) := by
  induction s generalizing X Y b with
  | nil => exact ⟨true, b, rfl, by simpa using h, by simp⟩
  | cons n s ih =>
    cases X with
    | nil => simp [eqVals] at h
    | cons x X => cases Y with
      | nil => simp [eqVals] at h
      | cons y Y =>
        simp only [List.cons_append, eqVals] at h
        split at h
        · rename_i b1 c h1 h2
          obtain ⟨b2, b3, h3, h4, rfl⟩ := ih h2
          refine ⟨b1 && b2, b3, ?_, by simpa using h4, ?_⟩
          · simp [eqVals, h1, h3]
          · rw [← Option.some.inj h, Bool.and_assoc]
        · cases h
theorem run_partV {P : Program} {t : TypeId} {n off : Nat} {Z : List Value} {b : Bool} (ha : eAgg P t = some b) (hn : eSz P t = some n) (hb : b = false → n = 1) (hz : off + n ≤ Z.length) (w' : World) :
    ∃ v, (part t Z.toArray off).run P w' = .ok v w' ∧ AsV P t ((Z.drop off).take n) v := by
  cases b with
  | true =>
    refine ⟨_, ?_, .inl ⟨ha, rfl⟩⟩
    simp only [part, Sem.run_bind, run_isAgg ha, Result.andThen_ok, if_true, run_sizeOf hn, Sem.run_pure]
    congr 2
    apply Array.ext'
    simp [List.extract_eq_take_drop]
  | false =>
    obtain rfl := hb rfl
    have hlt : off < Z.length := by omega
    refine ⟨Z[off], ?_, .inr ⟨ha, ?_⟩⟩
    · simp [part, run_isAgg ha, List.getElem?_eq_getElem hlt]
    · rw [List.drop_eq_getElem_cons hlt]; rfl
theorem eqFs_run {P : Program} {d d' : Nat} (ih : ∀ t s, eqSorts P d t = some s → ∀ X Y b, eqVals s X Y = some b → ∀ x y, AsV P t X x → AsV P t Y y → ∀ w', (Op.equalIn (d + d') t x y).run P w' = .ok b w')
    (hag : ∀ t s, eqSorts P d t = some s → ∃ b, eAgg P t = some b ∧ (b = false → s.length = 1)) :
    ∀ (fs : List Field) (off : Nat) (s : List Nat), eqFs (eqSorts P d) P fs off = some s → ∀ (X Y : List Value) (b : Bool), eqVals s (X.drop off) (Y.drop off) = some b → off ≤ X.length → off ≤ Y.length → ∀ w', (Op.eqFields (d + d') X.toArray Y.toArray fs).run P w' = .ok b w' := by
  intro fs
  induction fs with
  | nil =>
    intro off s hs X Y b hb _ _ w'
    cases hs
    have hl := eqVals_len hb
    rw [List.length_eq_zero_iff.1 hl.1, List.length_eq_zero_iff.1 hl.2] at hb
    cases hb
    simp [Op.eqFields]
  | cons fl fs ihf =>
    intro off s hs X Y b hb hx hy w'
    simp only [eqFs] at hs
    split at hs
    · rename_i hc
      split at hs
      · rename_i s1 n h1 h2
        split at hs
        · rename_i hn
          obtain ⟨r, hr, rfl⟩ := Option.map_eq_some_iff.1 hs
          obtain ⟨b1, b2, h3, h4, rfl⟩ := eqVals_append hb
          have hl := eqVals_len hb
          simp only [List.length_drop, List.length_append] at hl
          subst hn
          obtain ⟨ba, ha, hba⟩ := hag _ _ h1
          obtain ⟨vx, rx, ax⟩ := run_partV (P := P) (t := fl.type) (Z := X) ha h2 hba (off := off) (by omega) w'
          obtain ⟨vy, ry, ay⟩ := run_partV (P := P) (t := fl.type) (Z := Y) ha h2 hba (off := off) (by omega) w'
          have he := ih _ _ h1 _ _ _ h3 _ _ ax ay w'
          have hrest := ihf (off + s1.length) r hr X Y b2 (by simpa [List.drop_drop, Nat.add_comm] using h4) (by omega) (by omega) w'
          obtain ⟨hc1, hc2⟩ := hc
          simp only [Op.eqFields, if_pos hc1, hc2, Sem.run_bind, rx, ry, Result.andThen_ok, he]
          cases b1 with
          | true => simpa using hrest
          | false => simp
        · cases hs
      · cases hs
    · cases hs
theorem eqSorts_agg {P : Program} {d : Nat} {t : TypeId} {s : List Nat} (h : eqSorts P d t = some s) : ∃ b, eAgg P t = some b ∧ (b = false → s.length = 1) := by
  cases d with
  | zero => cases h
  | succ d =>
    simp only [eqSorts] at h
    split at h
    · rename_i hu; cases h; exact ⟨false, by simp [eAgg, hu], fun _ => rfl⟩
    · rename_i hu; cases h; exact ⟨false, by simp [eAgg, hu], fun _ => rfl⟩
    · rename_i hu; cases h; exact ⟨false, by simp [eAgg, hu], fun _ => rfl⟩
    · rename_i hu; exact ⟨true, by simp [eAgg, hu], fun h => by cases h⟩
    · cases h
theorem eqSorts_run {P : Program} : ∀ (d : Nat) (d' : Nat) (t : TypeId) (s : List Nat), eqSorts P d t = some s → ∀ X Y b, eqVals s X Y = some b → ∀ x y, AsV P t X x → AsV P t Y y → ∀ w', (Op.equalIn (d + d') t x y).run P w' = .ok b w' := by
  intro d
  induction d with
  | zero => intro d' t s hs; cases hs
  | succ d ih =>
    intro d' t s hs X Y b hb x y hx hy w'
    rw [show d + 1 + d' = (d + d') + 1 by omega]
    have leaf : ∀ n, s = [n] → eAgg P t = some false → ∃ b', eqCell n x y = some b' ∧ b = b' := by
      intro n hn ha
      subst hn
      rcases hx with ⟨h1, _⟩ | ⟨_, h1⟩
      · rw [ha] at h1; cases h1
      rcases hy with ⟨h2, _⟩ | ⟨_, h2⟩
      · rw [ha] at h2; cases h2
      subst h1; subst h2
      simp only [eqVals] at hb
      split at hb
      · rename_i b1 c h3 h4
        cases h4
        exact ⟨b1, h3, by rw [← Option.some.inj hb]; simp⟩
      · cases hb
    simp only [eqSorts] at hs
    split at hs
    · rename_i k hu
      obtain ⟨b', h1, rfl⟩ := leaf 0 (Option.some.inj hs).symm (by simp [eAgg, hu])
      cases x <;> cases y <;> simp only [eqCell] at h1 <;> (first | (cases h1; done) | skip)
      split at h1
      · rename_i hk
        subst hk
        cases h1
        exact run_equalIn_int w' _ t _ k _ _ hu
      · cases h1
    · rename_i hu
      obtain ⟨b', h1, rfl⟩ := leaf 1 (Option.some.inj hs).symm (by simp [eAgg, hu])
      cases x <;> cases y <;> simp only [eqCell] at h1 <;> (first | (cases h1; done) | skip)
      cases h1
      exact run_equalIn_string w' _ t _ _ hu
    · rename_i hu
      obtain ⟨b', h1, rfl⟩ := leaf 2 (Option.some.inj hs).symm (by simp [eAgg, hu])
      cases x <;> cases y <;> simp only [eqCell] at h1 <;> (first | (cases h1; done) | skip)
      cases h1
      exact run_equalIn_bool' w' _ t _ _ hu
    · rename_i fs hu
      split at hs
      · cases hs
      · rename_i hst
        have ha : eAgg P t = some true := by simp [eAgg, hu]
        rcases hx with ⟨_, rfl⟩ | ⟨h1, _⟩
        rotate_left
        · rw [ha] at h1; cases h1
        rcases hy with ⟨_, rfl⟩ | ⟨h1, _⟩
        rotate_left
        · rw [ha] at h1; cases h1
        have hf : P.fieldsOf t = fs := by simp [Program.fieldsOf, hu]
        rw [run_equalIn_struct w' _ t _ _ (by rw [hf]; exact hu) (by simpa using hst), hf]
        exact eqFs_run (fun t s h => ih d' t s h) (fun t s h => eqSorts_agg h) _ _ _ hs X Y b (by simpa using hb) (Nat.zero_le _) (Nat.zero_le _) w'
    · cases hs
theorem litL_spec {ds : List D} {X : List Value} (h : litL ds = some X) : X.length = ds.length ∧ ∀ (k : Nat) (d : D), ds[k]? = some d → ∃ v, X[k]? = some v ∧ d = .lit v := by
  induction ds generalizing X with
  | nil => cases h; exact ⟨rfl, fun k d hk => by simp at hk⟩
  | cons d ds ih =>
    unfold litL at h
    split at h
    · rename_i hd; cases hd
    · rename_i v r hd
      obtain ⟨rfl, rfl⟩ := List.cons.inj hd
      obtain ⟨Z, hz, rfl⟩ := Option.map_eq_some_iff.1 h
      obtain ⟨h1, h2⟩ := ih hz
      refine ⟨by simp [h1], fun k d hk => ?_⟩
      cases k with
      | zero => cases hk; exact ⟨v, rfl, rfl⟩
      | succ k => exact h2 k d (by simpa using hk)
    · cases h
theorem eEq_run {P : Program} {t : TypeId} {s : List Nat} (he : eEq P t = some s) {X Y : List Value} {b : Bool} (hb : eqVals s X Y = some b) (w' : World) :
    (binOp .eql t (.agg X.toArray) (.agg Y.toArray)).run P w' = .ok (.bool b) w' ∧ (binOp .neq t (.agg X.toArray) (.agg Y.toArray)).run P w' = .ok (.bool (!b)) w' ∧ P.eqGuardType P.depth t = false := by
  unfold eEq at he
  split at he
  · cases he
  · rename_i hg
    split at he
    · rename_i fs hu
      have ha : eAgg P t = some true := by simp [eAgg, hu]
      have h := eqSorts_run 9 9991 t s he X Y b hb _ _ (.inl ⟨ha, rfl⟩) (.inl ⟨ha, rfl⟩) w'
      refine ⟨?_, ?_, by simpa using hg⟩
      · rw [run_eql_struct, h]; rfl
      · rw [run_neq_struct, h]; rfl
    · cases he
theorem agg_lits {w : World} {K : Nat → Prop} {ds : List D} {X : List Value} {v : Value} (h : litL ds = some X) (hr : RdD w K (.agg ds) v) : v = .agg X.toArray := by
  obtain ⟨h1, h2⟩ := litL_spec h
  cases hr with
  | agg _ vs g hn hg hd =>
    congr 1
    apply Array.ext'
    apply List.ext_getElem?
    intro k
    by_cases hk : k < ds.length
    · obtain ⟨u, h3, h4⟩ := h2 k _ (List.getElem?_eq_getElem hk)
      have h5 := hd k _ (List.getElem?_eq_getElem hk)
      rw [h4] at h5
      have h6 := hg k (by omega)
      cases h5
      simp only [Array.getElem?_toList, h6, h3]
    · rw [List.getElem?_eq_none (by simp; omega), List.getElem?_eq_none (by simp; omega)]
theorem bin_sound (r : Rep C st ok h a w) (hE : Tells w ok h a E) {op : BinOp} {t u : TypeId} {y z : Operand} (ho : o.op = .binOp op t y z u) (he : roBin C.P op t (E y) (E z) = some (x, p)) (hp : p) : Yields C w ok h a o x := by
  unfold roBin at he
  split at he
  · rename_i k n k' m hy hz
    split at he
    · rename_i q hq
      obtain ⟨rfl, rfl⟩ := Prod.mk.inj (Option.some.inj he)
      have e1 := lit_of (hE _ _ hy)
      have e2 := lit_of (hE _ _ hz)
      refine yields_lit _ fun w' => ?_
      have hb := eShift_sound (op := op) (v := q.1) (p := q.2) hq hp k' t C.P w'
      simp only [execOp, ho, e1, e2, eqGuard, Sem.run_bind, Sem.run_pure]
      split <;> simp [hb]
    split at he
    · rename_i hk
      subst hk
      cases hq : eArith op k n m with
      | none => simp [hq] at he
      | some q =>
        rw [hq] at he
        obtain ⟨rfl, rfl⟩ := Prod.mk.inj (Option.some.inj he)
        have e1 := lit_of (hE _ _ hy)
        have e2 := lit_of (hE _ _ hz)
        refine yields_lit _ fun w' => ?_
        have hb := eArith_sound (op := op) (v := q.1) (p := q.2) hq hp t C.P w' (by rintro rfl; simp [eArith] at hq) (by rintro rfl; simp [eArith] at hq)
        simp only [execOp, ho, e1, e2, eqGuard, Sem.run_bind, Sem.run_pure]
        split <;> simp [hb]
    · cases he
  · rename_i n m hy hz
    cases hq : eText op n m with
    | none => simp [hq] at he
    | some q =>
      rw [hq] at he
      obtain ⟨rfl, rfl⟩ := Prod.mk.inj (Option.some.inj he)
      have e1 := lit_of (hE _ _ hy)
      have e2 := lit_of (hE _ _ hz)
      refine yields_lit _ fun w' => ?_
      have hb := eText_sound (op := op) (v := q.1) (p := q.2) hq hp t C.P w'
      simp only [execOp, ho, e1, e2, eqGuard, Sem.run_bind, Sem.run_pure]
      split <;> simp [hb]
  · rename_i n m hy hz
    split at he
    · rename_i hb
      cases hq : eTruth op n m with
      | none => simp [hq] at he
      | some q =>
        rw [hq] at he
        obtain ⟨rfl, rfl⟩ := Prod.mk.inj (Option.some.inj he)
        have e1 := lit_of (hE _ _ hy)
        have e2 := lit_of (hE _ _ hz)
        refine yields_lit _ fun w' => ?_
        have hb := eTruth_sound (op := op) (v := q.1) (p := q.2) hq hp t C.P hb w'
        simp only [execOp, ho, e1, e2, eqGuard, Sem.run_bind, Sem.run_pure]
        split <;> simp [hb]
    · cases he
  · rename_i hy hz
    split at he
    · rename_i hpt
      have e1 := lit_of (hE _ _ hy)
      have e2 := lit_of (hE _ _ hz)
      have hb := fun w' => run_eq_nil (P := C.P) hpt none w'
      cases op <;> simp only [eSame] at he <;> (first | (cases he; done) | skip) <;> obtain ⟨rfl, rfl⟩ := Prod.mk.inj (Option.some.inj he)
      all_goals
        refine yields_lit _ fun w' => ?_
        simp only [execOp, ho, e1, e2, eqGuard, Sem.run_bind, Sem.run_pure]
        split <;> simp [(hb w').1, (hb w').2]
    · cases he
  · rename_i id off hy hz
    split at he
    · rename_i hpt
      have e1 := hE _ _ hy
      have e2 := lit_of (hE _ _ hz)
      generalize hv : a.eval y = v at e1
      cases e1 with
      | bp _ _ b hb' =>
        have hb := fun w' => run_eq_nil (P := C.P) hpt (some ⟨b, off, none⟩) w'
        cases op <;> simp only [eSame] at he <;> (first | (cases he; done) | skip) <;> obtain ⟨rfl, rfl⟩ := Prod.mk.inj (Option.some.inj he)
        all_goals
          refine yields_lit _ fun w' => ?_
          simp only [execOp, ho, hv, e2, eqGuard, Sem.run_bind, Sem.run_pure]
          split <;> simp [(hb w').1, (hb w').2]
    · cases he
  · rename_i id off hy hz
    split at he
    · rename_i hpt
      have e1 := lit_of (hE _ _ hy)
      have e2 := hE _ _ hz
      generalize hv : a.eval z = v at e2
      cases e2 with
      | bp _ _ b hb' =>
        have hb := fun w' => run_nil_eq (P := C.P) hpt (some ⟨b, off, none⟩) w'
        cases op <;> simp only [eSame] at he <;> (first | (cases he; done) | skip) <;> obtain ⟨rfl, rfl⟩ := Prod.mk.inj (Option.some.inj he)
        all_goals
          refine yields_lit _ fun w' => ?_
          simp only [execOp, ho, hv, e1, eqGuard, Sem.run_bind, Sem.run_pure]
          split <;> simp [(hb w').1, (hb w').2]
    · cases he
  · rename_i id off id' off' hy hz
    split at he
    · rename_i hpt
      simp only [Bool.and_eq_true, beq_iff_eq] at hpt
      obtain ⟨⟨hpt, rfl⟩, rfl⟩ := hpt
      have e1 := hE _ _ hy
      have e2 := hE _ _ hz
      generalize hv : a.eval y = v at e1
      generalize hu : a.eval z = u' at e2
      cases e1 with
      | bp _ _ b hb1 => cases e2 with
        | bp _ _ b2 hb2 =>
          obtain rfl : b = b2 := Option.some.inj (hb1.symm.trans hb2)
          have hb := fun w' => run_ptr_same (P := C.P) hpt ⟨b, off, none⟩ w'
          cases op <;> simp only [eSame] at he <;> (first | (cases he; done) | skip) <;> obtain ⟨rfl, rfl⟩ := Prod.mk.inj (Option.some.inj he)
          all_goals
            refine yields_lit _ fun w' => ?_
            simp only [execOp, ho, hv, hu, eqGuard, Sem.run_bind, Sem.run_pure]
            split <;> simp [(hb w').1, (hb w').2]
    · cases he
  · rename_i xs ys hy hz
    split at he
    · rename_i s X Y hs hX hY
      split at he
      · rename_i b hb
        have e1 := agg_lits hX (by cases hE _ _ hy with | d _ _ hx => exact hx)
        have e2 := agg_lits hY (by cases hE _ _ hz with | d _ _ hx => exact hx)
        have hr := fun w' => eEq_run hs hb w'
        cases op <;> simp only [eSame] at he <;> (first | (cases he; done) | skip) <;> obtain ⟨rfl, rfl⟩ := Prod.mk.inj (Option.some.inj he)
        all_goals
          refine yields_lit _ fun w' => ?_
          simp [execOp, ho, e1, e2, run_eqGuard_agg w' _ t y z X.toArray Y.toArray (hr w').2.2, (hr w').1, (hr w').2.1]
      · cases he
    · cases he
  · cases he

theorem un_sound (r : Rep C st ok h a w) (hE : Tells w ok h a E) {op : UnOp} {t : TypeId} {y : Operand} (ho : o.op = .unOp op t y) (he : roUn op (E y) = some (x, p)) (hp : p) : Yields C w ok h a o x := by
  unfold roUn at he
  split at he
  · rename_i b hy
    have e1 := lit_of (hE _ _ hy)
    cases op <;> first | (cases he; done) | obtain ⟨rfl, rfl⟩ := Prod.mk.inj (Option.some.inj he)
    refine yields_lit _ fun w' => ?_
    simp [execOp, ho, e1, Op.unary]
  · rename_i k n hy
    have e1 := lit_of (hE _ _ hy)
    cases op <;> first | (cases he; done) | obtain ⟨rfl, rfl⟩ := Prod.mk.inj (Option.some.inj he)
    refine yields_lit _ fun w' => ?_
    have hw := inR_wrap hp
    simp [execOp, ho, e1, Op.unary, Op.intArith] at hw ⊢
    exact hw
  · cases he

theorem pick_sound {R : Bool → Operand → Option V} (hR : ∀ g, g = true → Tells w ok h a (R g)) {c y z : Operand} {b : Bool} (ho : o.op = .pick c y z) (hc : R true c = some (.d (.lit (.bool b)))) (he : roPick b (R (true && b) y) (R (true && !b) z) = some (x, p)) : Yields C w ok h a o x := by
  have e0 := lit_of (hR true rfl _ _ hc)
  have key : ∀ y' z', R (true && b) y = some y' → R (true && !b) z = some z' → RdV w ok h (bif b then y' else z') (bif b then a.eval y else a.eval z) := by
    intro y' z' hy hz
    cases b
    · exact hR _ rfl _ _ hz
    · exact hR _ rfl _ _ hy
  have run : ∀ w', (execOp a.eval o).run C.P w' = .ok (.value (bif b then a.eval y else a.eval z)) w' := by
    intro w'
    cases b <;> simp [execOp, ho, e0, asBool]
  unfold roPick at he
  split at he
  · rename_i u v hy hz
    have k := key _ _ hy hz
    split at he
    · obtain ⟨rfl, rfl⟩ := Prod.mk.inj (Option.some.inj he)
      refine ⟨_, ?_, fun w' _ => run w'⟩
      cases b <;> exact k
    · obtain ⟨rfl, rfl⟩ := Prod.mk.inj (Option.some.inj he)
      exact ⟨_, k, fun w' _ => run w'⟩
  · cases he

theorem eFld_spec {P : Program} {t : TypeId} {f : Nat} {r : TypeId × Nat} (he : eFld P t f = some r) :
    ∃ (fields : Array Field) (fl : Field), P.underlying t = some (.struct fields) ∧ fields[f]? = some fl ∧ fl.type = r.1 ∧ fl.offset = r.2 ∧ ∃ i, P.info? fl.type = some i ∧ i.size ≠ 0 := by
  unfold eFld at he
  split at he
  · rename_i fields hu
    split at he
    · rename_i fl hf
      split at he
      · cases he
      · rename_i n hne hi
        cases he
        obtain ⟨i, h1, h2⟩ := Option.map_eq_some_iff.1 hi
        exact ⟨fields, fl, hu, hf, rfl, rfl, i, h1, by intro h0; apply hne; rw [h2] at h0; rw [h0]⟩
      · cases he
    · cases he
  · cases he
theorem run_fieldAt {P : Program} {t : TypeId} {f : Nat} {r : TypeId × Nat} (he : eFld P t f = some r) (b off : Nat) (w' : World) :
    (Instr.fieldAt t (.pointer (some ⟨b, off, none⟩)) f).run P w' = .ok (.pointer (some ⟨b, off + r.2, none⟩)) w' := by
  obtain ⟨fields, fl, hu, hf, h1, h2, i, hi, hs⟩ := eFld_spec he
  have hadd : (⟨b, off, none⟩ : Addr).add fl.offset = ⟨b, off + fl.offset, none⟩ := by unfold Addr.add; split <;> simp_all
  rw [h2] at hadd
  simp [Instr.fieldAt, run_underlying hu, hf, Instr.sureAddr, fieldPlace, sizeOf, typeInfo, hi, hs, hadd, h2]

theorem fieldAddr_sound (r : Rep C st ok h a w) (hE : Tells w ok h a E) {t : TypeId} {f : Nat} {y : Operand} (ho : o.op = .fieldAddr t y f) (he : roFieldAddr C.P t f (E y) = some (x, p)) (_hp : p) : Yields C w ok h a o x := by
  unfold roFieldAddr at he
  split at he
  · rename_i id off hy
    obtain ⟨q, hq, hx⟩ := Option.map_eq_some_iff.1 he
    obtain ⟨rfl, rfl⟩ := Prod.mk.inj hx
    have e1 := hE _ _ hy
    generalize hv : a.eval y = v at e1
    cases e1 with
    | bp _ _ b hb => exact ⟨_, .bp id (off + q.2) b hb, fun w' _ => by simp [execOp, ho, hv, run_fieldAt hq]⟩
  · rename_i id i off hy
    obtain ⟨q, hq, hx⟩ := Option.map_eq_some_iff.1 he
    obtain ⟨rfl, rfl⟩ := Prod.mk.inj hx
    have e1 := hE _ _ hy
    generalize hv : a.eval y = v at e1
    cases e1 with
    | el _ _ _ b hb =>
      refine ⟨_, .el id i (off + q.2) b hb, fun w' _ => ?_⟩
      simp only [execOp, ho, hv, Sem.run_bind, run_fieldAt hq, Result.andThen_ok, Sem.run_pure, Nat.add_assoc]
  · rename_i cs off hy
    obtain ⟨q, hq, hx⟩ := Option.map_eq_some_iff.1 he
    obtain ⟨rfl, rfl⟩ := Prod.mk.inj hx
    have e1 := hE _ _ hy
    generalize hv : a.eval y = v at e1
    cases e1 with
    | d _ _ hx => cases hx with
      | ip _ _ b o g hb hg hd =>
        refine ⟨_, .d _ _ (.ip cs (off + q.2) b o g hb hg hd), fun w' _ => ?_⟩
        simp only [execOp, ho, hv, Sem.run_bind, run_fieldAt hq, Result.andThen_ok, Sem.run_pure, Nat.add_assoc]
  · cases he

theorem eElem_spec {P : Program} {t : TypeId} {r : TypeId × Nat} (he : eElem P t = some r) : P.underlying t = some (.slice r.1) ∧ ∃ i, P.info? r.1 = some i ∧ i.size = r.2 := by
  unfold eElem at he
  split at he
  · rename_i e hu
    obtain ⟨i, h1, h2⟩ := Option.map_eq_some_iff.1 he
    subst h2
    exact ⟨hu, i, h1, rfl⟩
  · cases he
theorem eStr_spec {P : Program} {t : TypeId} (he : eStr P t = true) : P.underlying t = some .string := by
  unfold eStr at he
  split at he <;> simp_all
theorem eInt_spec {P : Program} {t : TypeId} {k : IntKind} (he : eInt P t = some k) : P.underlying t = some (.int k) := by
  unfold eInt at he
  split at he <;> simp_all

theorem addr_add (b off k : Nat) : (⟨b, off, none⟩ : Addr).add k = ⟨b, off + k, none⟩ := by unfold Addr.add; split <;> simp_all

/-- A row of cells that reads as a list of values. -/
def Cells (w : World) (ok : Nat → Prop) (h : Nat → Hd) (b off : Nat) (cells : List V) : Prop :=
  ∀ k x, cells[k]? = some x → ∃ v, w.cell? ⟨b, off + k, none⟩ = some v ∧ RdV w ok h x v

theorem allD_spec : ∀ {cs : List V} {ds : List D}, allD cs = some ds → cs = ds.map V.d
  | [], ds, h => by cases h; rfl
  | .d x :: r, ds, h => by
    simp only [allD] at h
    obtain ⟨ds', h1, h2⟩ := Option.map_eq_some_iff.1 h
    subst h2
    rw [allD_spec h1]
    rfl
  | .bp .. :: _, _, h | .el .. :: _, _, h | .os .. :: _, _, h | .ot .. :: _, _, h | .mp .. :: _, _, h | .vagg .. :: _, _, h | .vtup .. :: _, _, h | .vclo .. :: _, _, h | .any :: _, _, h => by cases h

theorem mkAgg_sound {cs : List V} {vs : Array Value} {g : Nat → Value} (hn : vs.size = cs.length) (hg : ∀ i, i < cs.length → vs[i]? = some (g i))
    (hx : ∀ i x, cs[i]? = some x → RdV w ok h x (g i)) : RdV w ok h (mkAgg cs) (.agg vs) := by
  unfold mkAgg
  split
  · rename_i ds hd
    have e := allD_spec hd
    subst e
    refine .d _ _ (.agg ds vs g (by simpa using hn) (by simpa using hg) fun i d hi => ?_)
    have := hx i (.d d) (by simp [hi])
    cases this with | d _ _ h => exact h
  · exact .vagg cs vs g hn hg hx

theorem loadV_sound {P : Program} {t : TypeId} {b off : Nat} {cells : List V} (hc : Cells w ok h b off cells) (he : loadV P t cells = some x) :
    ∃ v, RdV w ok h x v ∧ ∀ w', (∀ o, w'.cell? ⟨b, o, none⟩ = w.cell? ⟨b, o, none⟩) → (Instr.loadAt t (.pointer (some ⟨b, off, none⟩))).run P w' = .ok v w' := by
  unfold loadV at he
  split at he
  · rename_i n ha hn
    split at he
    · rename_i hle
      cases he
      have hex : ∀ k, k < n → ∃ v, w.cell? ⟨b, off + k, none⟩ = some v ∧ ∀ x, cells[k]? = some x → RdV w ok h x v := fun k hk => by
        have hkl : k < cells.length := by omega
        obtain ⟨v, h1, h2⟩ := hc k cells[k] (List.getElem?_eq_getElem hkl)
        exact ⟨v, h1, fun x hx => by rw [List.getElem?_eq_getElem hkl] at hx; cases hx; exact h2⟩
      let g : Nat → Value := fun k => (w.cell? ⟨b, off + k, none⟩).getD undef
      have hg : ∀ k, k < n → w.cell? ⟨b, off + k, none⟩ = some (g k) := fun k hk => by
        obtain ⟨v, h1, _⟩ := hex k hk
        simp [g, h1]
      refine ⟨.agg ((List.range n).map g).toArray, mkAgg_sound (g := g) (by simp; omega) (fun i hi => ?_) (fun i x hi => ?_), fun w' hw' => ?_⟩
      · have hi' : i < n := by simp at hi; omega
        simp [hi']
      · have hin : i < n := by
          have := (List.getElem?_eq_some_iff.1 hi).1
          simp at this; omega
        obtain ⟨v, h1, h2⟩ := hex i hin
        have hv : g i = v := by simp [g, h1]
        rw [hv]
        exact h2 x (by rw [List.getElem?_take] at hi; simpa [hin] using hi)
      · have hl := run_loadCells (P := P) w' ⟨b, off, none⟩ n g (fun j hj => by rw [addr_add, hw']; exact hg j hj)
        simp [Instr.loadAt, Instr.sureAddr, loadVar, run_isAgg ha, run_sizeOf hn, hl]
    · cases he
  · rename_i o ha
    obtain ⟨v, h1, h2⟩ := hc 0 x (by cases cells <;> simp_all)
    refine ⟨v, h2, fun w' hw' => ?_⟩
    have hcell := (hw' (off + 0)).trans h1
    simp only [Nat.add_zero] at hcell
    simp [Instr.loadAt, Instr.sureAddr, loadVar, run_isAgg ha, hcell]
  · cases he

theorem load_sound (r : Rep C st ok h a w) (hE : Tells w ok h a E) {t : TypeId} {y : Operand} (ho : o.op = .load t y) (he : roLoad C.P st.objs t (E y) = some (x, p)) (hp : p) : Yields C w ok h a o x := by
  unfold roLoad at he
  split at he
  · rename_i id off hy
    split at he
    · rename_i ty cells hl
      obtain ⟨z, hz, hx⟩ := Option.map_eq_some_iff.1 he
      obtain ⟨rfl, rfl⟩ := Prod.mk.inj hx
      have e1 := hE _ _ hy
      generalize hv : a.eval y = v at e1
      cases e1 with
      | bp _ _ b hb =>
        obtain ⟨b', cs, h1, h2, h3, h4⟩ := r.mem.obj id _ hl
        obtain rfl : b' = b := by rw [h1] at hb; exact Option.some.inj hb
        obtain ⟨v, hr, hrun⟩ := loadV_sound (P := C.P) (w := w) (ok := ok) (h := h) (b := b') (off := off) (cells := cells.drop off) (fun k x hk => by
          rw [List.getElem?_drop] at hk
          obtain ⟨v, h5, h6⟩ := h4 _ _ hk
          exact ⟨v, by simpa [World.cell?, h2] using h5, h6⟩) hz
        refine ⟨v, hr, fun w' hw' => ?_⟩
        have hlt := (r.mem.blk id _ b' hl h1).1
        simp [execOp, ho, hv, hrun w' (fun o => cell_same (hw' b' hlt))]
    · cases he
  · rename_i id i off hy
    split at he
    · rename_i e sz grow es hl
      obtain ⟨z, hz, hx⟩ := Option.map_eq_some_iff.1 he
      obtain ⟨rfl, rfl⟩ := Prod.mk.inj hx
      have e1 := hE _ _ hy
      generalize hv : a.eval y = v at e1
      cases e1 with
      | el _ _ _ b hb =>
        obtain ⟨hsz, _, h5⟩ := r.mem.obj id _ hl
        rcases h5 with ⟨h6, _⟩ | ⟨b', cur, fz, h1, h2, h3, _, h4, h5, h6⟩
        · rw [h6] at hb; cases hb
        obtain rfl : b' = b := by rw [h1] at hb; exact Option.some.inj hb
        have hil : es[i]? = some (es.getD i grow.2) := by simp [List.getD, List.getElem?_eq_getElem hp]
        obtain ⟨hlen, hcell⟩ := h6 i _ hil
        obtain ⟨v, hr, hrun⟩ := loadV_sound (P := C.P) (w := w) (ok := ok) (h := h) (b := b') (off := i * sz + off) (cells := ((es.getD i grow.2).drop off).map V.d) (fun k x hk => by
          rw [List.getElem?_map, List.getElem?_drop] at hk
          obtain ⟨d, hd, hdx⟩ := Option.map_eq_some_iff.1 hk
          subst hdx
          obtain ⟨v, h7, h8⟩ := hcell _ _ hd
          refine ⟨v, ?_, .d _ _ h8⟩
          rw [Nat.add_assoc]
          simpa [World.cell?, h2] using h7) hz
        refine ⟨v, hr, fun w' hw' => ?_⟩
        have hlt := (r.mem.blk id _ b' hl h1).1
        simp [execOp, ho, hv, hsz, hrun w' (fun o => cell_same (hw' b' hlt))]
    · cases he
  · rename_i cs off hy
    obtain ⟨z, hz, hx⟩ := Option.map_eq_some_iff.1 he
    obtain ⟨rfl, rfl⟩ := Prod.mk.inj hx
    have e1 := hE _ _ hy
    generalize hv : a.eval y = v at e1
    cases e1 with
    | d _ _ hx => cases hx with
      | ip _ _ b o' g hb hg hd =>
        obtain ⟨v, hr, hrun⟩ := loadV_sound (P := C.P) (w := w) (ok := ok) (h := h) (b := b) (off := o' + off) (cells := (cs.drop off).map V.d) (fun k x hk => by
          rw [List.getElem?_map, List.getElem?_drop] at hk
          obtain ⟨d, hd', hdx⟩ := Option.map_eq_some_iff.1 hk
          subst hdx
          have hlt := (List.getElem?_eq_some_iff.1 hd').1
          exact ⟨_, by rw [Nat.add_assoc]; exact hg _ hlt, .d _ _ (hd _ _ hd')⟩) hz
        refine ⟨v, hr, fun w' hw' => ?_⟩
        simp [execOp, ho, hv, hrun w' (fun o => cell_same (hw' b (r.mem.okb b hb).1))]
  · cases he

theorem field_sound (r : Rep C st ok h a w) (hE : Tells w ok h a E) {t : TypeId} {f : Nat} {y : Operand} (ho : o.op = .field t y f) (he : roField C.P t f (E y) = some (x, p)) (_hp : p) : Yields C w ok h a o x := by
  unfold roField at he
  split at he
  · rename_i cs hy
    have e1 := hE _ _ hy
    generalize hv : a.eval y = v at e1
    cases e1 with
    | d _ _ hx => cases hx with
      | agg _ vs g hn hg hd =>
        split at he
        · rename_i ft off hf
          obtain ⟨fields, fl, hu, hfl, h1, h2, i, hi, hs⟩ := eFld_spec hf
          simp only at h1 h2
          have hrunf : ∀ w', (Instr.field t (.agg vs) f).run C.P w' = (part ft vs off).run C.P w' := fun w' => by
            simp [Instr.field, run_underlying hu, hfl, asAgg, h1, h2]
          split at he
          · rename_i n ha hn'
            split at he
            · rename_i hle
              obtain ⟨rfl, rfl⟩ := Prod.mk.inj (Option.some.inj he)
              refine ⟨.agg (vs.extract off (off + n)), .d _ _ (.agg _ _ (fun k => g (off + k)) (by simp; omega) (fun k hk => ?_) (fun k d hk => ?_)), fun w' _ => ?_⟩
              · simp at hk
                have := hg (off + k) (by omega)
                rw [Array.getElem?_extract]
                simp [this]
                omega
              · rw [List.getElem?_take, List.getElem?_drop] at hk
                split at hk
                · exact hd _ _ hk
                · cases hk
              · simp [execOp, ho, hv, hrunf, part, run_isAgg ha, run_sizeOf hn']
            · cases he
          · rename_i ha
            obtain ⟨d, hd', hx⟩ := Option.map_eq_some_iff.1 he
            obtain ⟨rfl, rfl⟩ := Prod.mk.inj hx
            have hlt := (List.getElem?_eq_some_iff.1 hd').1
            refine ⟨g off, .d _ _ (hd _ _ hd'), fun w' _ => ?_⟩
            simp [execOp, ho, hv, hrunf, part, run_isAgg ha, hg off hlt]
          · cases he
        · cases he
  · rename_i cs hy
    have e1 := hE _ _ hy
    generalize hv : a.eval y = v at e1
    cases e1 with
    | vagg _ vs g hn hg hd =>
      split at he
      · rename_i ft off hf
        obtain ⟨fields, fl, hu, hfl, h1, h2, i, hi, hs⟩ := eFld_spec hf
        simp only at h1 h2
        have hrunf : ∀ w', (Instr.field t (.agg vs) f).run C.P w' = (part ft vs off).run C.P w' := fun w' => by
          simp [Instr.field, run_underlying hu, hfl, asAgg, h1, h2]
        split at he
        · rename_i n ha hn'
          split at he
          · rename_i hle
            obtain ⟨rfl, rfl⟩ := Prod.mk.inj (Option.some.inj he)
            refine ⟨.agg (vs.extract off (off + n)), mkAgg_sound (g := fun k => g (off + k)) (by simp; omega) (fun k hk => ?_) (fun k d hk => ?_), fun w' _ => ?_⟩
            · simp at hk
              have := hg (off + k) (by omega)
              rw [Array.getElem?_extract]
              simp [this]
              omega
            · rw [List.getElem?_take, List.getElem?_drop] at hk
              split at hk
              · exact hd _ _ hk
              · cases hk
            · simp [execOp, ho, hv, hrunf, part, run_isAgg ha, run_sizeOf hn']
          · cases he
        · rename_i ha
          obtain ⟨d, hd', hx⟩ := Option.map_eq_some_iff.1 he
          obtain ⟨rfl, rfl⟩ := Prod.mk.inj hx
          have hlt := (List.getElem?_eq_some_iff.1 hd').1
          refine ⟨g off, hd _ _ hd', fun w' _ => ?_⟩
          simp [execOp, ho, hv, hrunf, part, run_isAgg ha, hg off hlt]
        · cases he
      · cases he
  · cases he

theorem run_indexAt {P : Program} {t : TypeId} {r : TypeId × Nat} (he : eElem P t = some r) (A : Addr) (n cap : Nat) (k : IntKind) (i : Int) (h0 : 0 ≤ i) (h1 : i < n) (w' : World) :
    (Instr.indexAt t (.slice (some A) n cap) (.int k i)).run P w' = .ok (.pointer (some (A.add (i.toNat * r.2)))) w' := by
  obtain ⟨hu, j, hj, hs⟩ := eElem_spec he
  simp [Instr.indexAt, asIntOf, run_underlying hu, h0, h1, sizeOf, typeInfo, hj, hs]

theorem run_indexArr {P : Program} {t : TypeId} {r : TypeId × Nat × Nat} (he : eArr P t = some r) (A : Addr) (k : IntKind) (i : Int) (h0 : 0 ≤ i) (h1 : i < r.2.1) (w' : World) :
    (Instr.indexAt t (.pointer (some A)) (.int k i)).run P w' = .ok (.pointer (some (A.add (i.toNat * r.2.2)))) w' := by
  unfold eArr at he
  split at he
  · rename_i n e hu
    obtain ⟨j, hj, rfl⟩ := Option.map_eq_some_iff.1 he
    simp only at h1
    simp [Instr.indexAt, asIntOf, run_underlying hu, Instr.sureAddr, sizeOf, typeInfo, hj, h0, h1]
  · cases he
theorem indexAddr_sound (r : Rep C st ok h a w) (hE : Tells w ok h a E) {t : TypeId} {y z : Operand} (ho : o.op = .indexAddr t y z) (he : roIndexAddr C.P st.objs t (E y) (E z) = some (x, p)) (hp : p) : Yields C w ok h a o x := by
  unfold roIndexAddr at he
  split at he
  · rename_i n f k i hy hz
    obtain ⟨q, hq, hx⟩ := Option.map_eq_some_iff.1 he
    obtain ⟨rfl, rfl⟩ := Prod.mk.inj hx
    obtain ⟨h0, h1, h2⟩ := hp
    have e1 := hE _ _ hy
    have e2 := lit_of (hE _ _ hz)
    generalize hv : a.eval y = v at e1
    cases e1 with
    | d _ _ hx => cases hx with
      | sl _ _ A cap size b off g hc hm hA hl hg hd =>
        obtain ⟨rfl, hok⟩ := hA (by omega)
        have hi : i.toNat < n := by omega
        have hsz : size = q.2 := by rw [← hl _ hi]; exact h2
        refine ⟨.pointer (some ⟨b, (off + i.toNat * size) + 0, none⟩), .d _ _ (.ip (f i.toNat) 0 b (off + i.toNat * size) (g i.toNat) hok (fun j hj => ?_) (fun j d hj => hd _ _ _ hi hj)), fun w' _ => ?_⟩
        · exact hg _ _ hi (by rw [hl _ hi] at hj; exact hj)
        · simp [execOp, ho, hv, e2, run_indexAt hq _ _ _ _ _ h0 h1, addr_add, hsz]
  · rename_i id n k i hy hz
    split at he
    · rename_i e sz grow es q hl hq
      obtain ⟨rfl, rfl⟩ := Prod.mk.inj (Option.some.inj he)
      obtain ⟨h0, h1, h2, h3⟩ := hp
      have e1 := hE _ _ hy
      have e2 := lit_of (hE _ _ hz)
      generalize hv : a.eval y = v at e1
      cases e1 with
      | os _ _ hcap =>
        obtain ⟨hsz, _, h5⟩ := r.mem.obj id _ hl
        rcases h5 with ⟨h6, h7, _⟩ | ⟨b', cur, fz, h6, _⟩
        · subst h7
          simp at h2; omega
        · refine ⟨_, .el id i.toNat 0 b' h6, fun w' _ => ?_⟩
          simp [execOp, ho, hv, e2, Hd.addr, h6, run_indexAt hq _ _ _ _ _ h0 h1, addr_add, hsz, h3]
    · cases he
  · rename_i id off k i hy hz
    obtain ⟨q, hq, hx⟩ := Option.map_eq_some_iff.1 he
    obtain ⟨rfl, rfl⟩ := Prod.mk.inj hx
    obtain ⟨h0, h1⟩ := hp
    have e1 := hE _ _ hy
    have e2 := lit_of (hE _ _ hz)
    generalize hv : a.eval y = v at e1
    cases e1 with
    | bp _ _ b hb => exact ⟨_, .bp id _ b hb, fun w' _ => by simp [execOp, ho, hv, e2, run_indexArr hq _ _ _ h0 h1, addr_add]⟩
  · rename_i cs off k i hy hz
    obtain ⟨q, hq, hx⟩ := Option.map_eq_some_iff.1 he
    obtain ⟨rfl, rfl⟩ := Prod.mk.inj hx
    obtain ⟨h0, h1⟩ := hp
    have e1 := hE _ _ hy
    have e2 := lit_of (hE _ _ hz)
    generalize hv : a.eval y = v at e1
    cases e1 with
    | d _ _ hx => cases hx with
      | ip _ _ b o g hb hg hd =>
        refine ⟨_, .d _ _ (.ip cs (off + i.toNat * q.2.2) b o g hb hg hd), fun w' _ => ?_⟩
        simp [execOp, ho, hv, e2, run_indexArr hq _ _ _ h0 h1, addr_add, Nat.add_assoc]
  · cases he

theorem index_sound (r : Rep C st ok h a w) (hE : Tells w ok h a E) {t : TypeId} {y z : Operand} (ho : o.op = .index t y z) (he : roIndex C.P t (E y) (E z) = some (x, p)) (hp : p) : Yields C w ok h a o x := by
  unfold roIndex at he
  split at he
  · rename_i s k i hy hz
    split at he
    · rename_i hs
      obtain ⟨rfl, rfl⟩ := Prod.mk.inj (Option.some.inj he)
      have e1 := lit_of (hE _ _ hy)
      have e2 := lit_of (hE _ _ hz)
      refine yields_lit _ fun w' => ?_
      obtain ⟨h0, h1⟩ := hp
      have hlt : i.toNat < s.size := by omega
      have hg : s[i.toNat]? = some s[i.toNat] := getElem?_pos s i.toNat hlt
      have hb : byteAt s i.toNat = s[i.toNat] := by
        have hl : i.toNat < s.data.toList.length := by simpa using hlt
        simp only [byteAt, List.getD, List.getElem?_eq_getElem hl]
        rfl
      simp [execOp, ho, e1, e2, Instr.index, asIntOf, run_underlying (eStr_spec hs), h0, hg, hb]
    · cases he
  · cases he

theorem RdD.sub {n l m : Nat} {f : Nat → List D} {A : Option Addr} {cap size : Nat} (hx : RdD w ok (.sl n f) (.slice A n cap)) (hl : l ≤ m) (hm : m ≤ n) (hsz : ∀ i, i < n → (f i).length = size) :
    RdD w ok (.sl (m - l) fun i => f (l + i)) (.slice (if cap = l then A else A.map (·.add (l * size))) (m - l) (cap - l)) := by
  cases hx with
  | sl _ _ _ _ size' b off g hc hcm hA hl' hg hd =>
    have e : n = 0 ∨ size' = size := by
      rcases Nat.eq_zero_or_pos n with h0 | h0
      · exact .inl h0
      · exact .inr (by rw [← hl' 0 h0, ← hsz 0 h0])
    refine .sl (m - l) _ _ (cap - l) size b (off + l * size) (fun i k => g (l + i) k) (by omega) (by omega) (fun h0 => ?_) (fun i hi => ?_) (fun i k hi hk => ?_) (fun i k d hi hk => ?_)
    · obtain ⟨rfl, hok⟩ := hA (by omega)
      rw [if_neg (by omega)]
      exact ⟨by simp [addr_add], hok⟩
    · exact hsz _ (by omega)
    · rcases e with e | e
      · omega
      · subst e
        have := hg (l + i) k (by omega) hk
        rw [Nat.add_mul, ← Nat.add_assoc] at this
        exact this
    · exact hd (l + i) k d (by omega) hk

theorem bnd_none {dflt i : Int} (he : bnd dflt none = some i) : i = dflt := by cases he; rfl
theorem bnd_some {dflt i : Int} {y : Option V} (he : bnd dflt (some y) = some i) : ∃ k, y = some (.d (.lit (.int k i))) := by
  match y, he with
  | some (.d (.lit (.int k j))), he => cases he; exact ⟨k, rfl⟩

theorem run_bound {P : Program} {k : IntKind} {i : Int} {y : Nat} {code : BoundsCode} (h0 : 0 ≤ i) (h1 : i ≤ y) (w' : World) : (Instr.sliceBound (.int k i) y code).run P w' = .ok i.toNat w' := by
  simp [Instr.sliceBound, asIntOf, h0, h1]

theorem run_boundsC (hE : Tells w ok h a E) {P : Program} {isS : Bool} {n cap : Nat} {lo hi : Option Operand} {l m : Int} (hl : bnd 0 (lo.map E) = some l) (hh : bnd n (hi.map E) = some m)
    (h0 : 0 ≤ l) (h1 : l ≤ m) (h2 : m ≤ cap) (w' : World) : (Instr.sliceBounds isS n cap (lo.map a.eval) (hi.map a.eval) none).run P w' = .ok (l.toNat, m.toNat, cap) w' := by
  cases hi with
  | none =>
    obtain rfl := bnd_none hh
    cases lo with
    | none => obtain rfl := bnd_none hl; simp [Instr.sliceBounds]
    | some x =>
      obtain ⟨k, hk⟩ := bnd_some hl
      have e := lit_of (hE _ _ hk)
      have hb := run_bound (P := P) (k := k) (i := l) (y := n) (code := .sliceB) h0 h1 w'
      simp [Instr.sliceBounds, e, hb]
  | some z =>
    obtain ⟨k', hk'⟩ := bnd_some hh
    have e' := lit_of (hE _ _ hk')
    have hb' := fun code => run_bound (P := P) (k := k') (i := m) (y := cap) (code := code) (by omega) (by omega) w'
    have hm : (m.toNat : Int) = m := by omega
    cases lo with
    | none => obtain rfl := bnd_none hl; simp [Instr.sliceBounds, e', hb']
    | some x =>
      obtain ⟨k, hk⟩ := bnd_some hl
      have e := lit_of (hE _ _ hk)
      have hb := run_bound (P := P) (k := k) (i := l) (y := m.toNat) (code := .sliceB) h0 (by omega) w'
      simp [Instr.sliceBounds, e, e', hb, hb']

theorem run_bounds (hE : Tells w ok h a E) {P : Program} {isS : Bool} {n cap : Nat} {lo hi : Option Operand} {l m : Int} (hl : bnd 0 (lo.map E) = some l) (hh : bnd n (hi.map E) = some m)
    (h0 : 0 ≤ l) (h1 : l ≤ m) (h2 : m ≤ n) (hc : n ≤ cap) (w' : World) : (Instr.sliceBounds isS n cap (lo.map a.eval) (hi.map a.eval) none).run P w' = .ok (l.toNat, m.toNat, cap) w' := run_boundsC hE hl hh h0 h1 (by omega) w'

theorem slice_sound (r : Rep C st ok h a w) (hE : Tells w ok h a E) {t : TypeId} {y : Operand} {lo hi : Option Operand} (ho : o.op = .slice t y lo hi none) (he : roSlice C.P st.objs t (lo.map E) (hi.map E) (E y) = some (x, p)) (hp : p) : Yields C w ok h a o x := by
  unfold roSlice at he
  split at he
  · rename_i s hy
    split at he
    · rename_i l m hs hl hh
      obtain ⟨rfl, rfl⟩ := Prod.mk.inj (Option.some.inj he)
      obtain ⟨h0, h1, h2⟩ := hp
      have e1 := lit_of (hE _ _ hy)
      refine yields_lit _ fun w' => ?_
      have hb := run_bounds (P := C.P) hE (isS := false) hl hh h0 h1 h2 (Nat.le_refl _) w'
      simp [execOp, ho, e1, Instr.sliceAt, run_underlying (eStr_spec hs), Instr.slice, hb]
    · cases he
  · rename_i n f hy
    split at he
    · rename_i q l m hq hl hh
      obtain ⟨rfl, rfl⟩ := Prod.mk.inj (Option.some.inj he)
      obtain ⟨h0, h1, h2, h3⟩ := hp
      have e1 := hE _ _ hy
      generalize hv : a.eval y = v at e1
      cases e1 with
      | d _ _ hx =>
        have hx' := hx
        cases hx with
        | sl _ _ A cap size b off g hc hm hA hl' hg hd =>
          obtain ⟨hu, j, hj, hs⟩ := eElem_spec hq
          have hb := fun w' => run_bounds (P := C.P) hE (isS := true) hl hh h0 h1 h2 hc w'
          refine ⟨_, .d _ _ (hx'.sub (l := l.toNat) (m := m.toNat) (size := q.2) (by omega) (by omega) h3), fun w' _ => ?_⟩
          simp [execOp, ho, hv, Instr.sliceAt, run_underlying hu, Instr.slice, hb, sizeOf, typeInfo, hj, hs]
    · cases he
  · rename_i id n hy
    split at he
    · rename_i e sz grow es q m hlk hq hl hh
      obtain ⟨rfl, rfl⟩ := Prod.mk.inj (Option.some.inj he)
      obtain ⟨h0, h1, h2⟩ := hp
      have e1 := hE _ _ hy
      generalize hv : a.eval y = v at e1
      cases e1 with
      | os _ _ hcap =>
        obtain ⟨hu, j, hj, hs⟩ := eElem_spec hq
        have hlo : lo = none := by cases lo <;> simp_all
        subst hlo
        have hb := fun w' => run_bounds (P := C.P) hE (isS := true) (lo := none) (l := 0) rfl hh (by omega) h0 h1 hcap w'
        refine ⟨_, .os id m.toNat (by omega), fun w' _ => ?_⟩
        simp only [Option.map_none] at hb
        simp [execOp, ho, hv, Instr.sliceAt, run_underlying hu, Instr.slice, hb, sizeOf, typeInfo, hj, hs]
        intro hc0
        cases hA : (h id).addr with
        | none => rfl
        | some A => simp [Hd.addr] at hA; obtain ⟨b, _, rfl⟩ := hA; simp [addr_add]
    · rename_i e sz grow es q k l m hlk hq hl hh
      split at he
      · rename_i hszq
        obtain ⟨rfl, rfl⟩ := Prod.mk.inj (Option.some.inj he)
        obtain ⟨h0, h1, h2'⟩ := hp
        have e1 := hE _ _ hy
        generalize hv : a.eval y = v at e1
        cases e1 with
        | os _ _ hcap =>
          obtain ⟨hu, j, hj, hs⟩ := eElem_spec hq
          have hl' : bnd 0 (lo.map E) = some l := by rw [hl]; rfl
          have h2 : m ≤ ((h id).cap : Int) := by
            rcases h2' with h3 | h3
            · omega
            · obtain ⟨_, _, h5⟩ := r.mem.obj id _ hlk
              rcases h5 with ⟨_, h7, _⟩ | ⟨_, _, _, _, _, _, _, h7, _⟩
              · subst h7; simp at h3; omega
              · omega
          have hb := fun w' => run_boundsC (P := C.P) hE (isS := true) hl' hh h0 h1 h2 w'
          have hzz := (r.mem.obj id _ hlk).1
          refine ⟨_, .ot id l.toNat (m.toNat - l.toNat) (by omega), fun w' _ => ?_⟩
          simp [execOp, ho, hv, Instr.sliceAt, run_underlying hu, Instr.slice, hb, sizeOf, typeInfo, hj, hs]
          unfold Hd.sub
          rw [hzz, hszq]
          split
          · rfl
          · cases hA : (h id).blk with
            | none => simp [Hd.addr, hA]
            | some b => simp [Hd.addr, hA, addr_add]
      · cases he
    · cases he
  · rename_i hy
    split at he
    · rename_i q m hq hl hh
      obtain ⟨rfl, rfl⟩ := Prod.mk.inj (Option.some.inj he)
      have h0 : m = 0 := hp
      have e1 := lit_of (hE _ _ hy)
      have hlo : lo = none := by cases lo <;> simp_all
      subst hlo
      obtain ⟨hu, j, hj, hs⟩ := eElem_spec hq
      have hb := fun w' => run_boundsC (P := C.P) hE (isS := true) (n := 0) (cap := 0) (lo := none) (l := 0) rfl hh (by omega) (by omega) (by omega) w'
      refine yields_lit _ fun w' => ?_
      simp only [Option.map_none] at hb
      simp [execOp, ho, e1, Instr.sliceAt, run_underlying hu, Instr.slice, hb, sizeOf, typeInfo, hj, hs, h0]
    · cases he
  · cases he

theorem slice3_sound (r : Rep C st ok h a w) (hE : Tells w ok h a E) {t : TypeId} {y mo : Operand} {lo hi : Option Operand} (ho : o.op = .slice t y lo hi (some mo)) (he : roSlice3 C.P st.objs t (lo.map E) (hi.map E) (E mo) (E y) = some (x, p)) (hp : p) : Yields C w ok h a o x := by
  unfold roSlice3 at he
  split at he
  · rename_i id n hy
    split at he
    · rename_i e sz gr es q l kh hh km hm hlk hq hl hhi hmx
      obtain ⟨rfl, rfl⟩ := Prod.mk.inj (Option.some.inj he)
      obtain ⟨h0, h1, h2, h3⟩ := hp
      have e1 := hE _ _ hy
      generalize hv : a.eval y = v at e1
      cases e1 with
      | os _ _ hcap =>
        obtain ⟨hu, j, hj, hs⟩ := eElem_spec hq
        have em := lit_of (hE _ _ hmx)
        cases hi with
        | none => cases hhi
        | some z =>
          have hz : E z = some (.d (.lit (.int kh hh))) := Option.some.inj hhi
          have ez := lit_of (hE _ _ hz)
          have bm := fun w' => run_bound (P := C.P) (k := km) (i := hm) (y := (h id).cap) (code := .slice3Acap) (by omega) (by omega) w'
          have hmn : ((hm.toNat : Nat) : Int) = hm := by omega
          have hhn : ((hh.toNat : Nat) : Int) = hh := by omega
          have bh := fun w' => run_bound (P := C.P) (k := kh) (i := hh) (y := hm.toNat) (code := .slice3B) (by omega) (by omega) w'
          cases lo with
          | none =>
            obtain rfl := bnd_none hl
            refine ⟨.slice (if hm.toNat = 0 then (h id).addr else (h id).addr.map (·.add (0 * j.size))) (hh.toNat - 0) (hm.toNat - 0), .any _, fun w' _ => ?_⟩
            simp [execOp, ho, hv, em, ez, Instr.sliceAt, run_underlying hu, Instr.slice, Instr.sliceBounds, bm w', bh w', sizeOf, typeInfo, hj, hs]
          | some xo =>
            obtain ⟨kl, hk⟩ := bnd_some hl
            have el := lit_of (hE _ _ hk)
            have bl := fun w' => run_bound (P := C.P) (k := kl) (i := l) (y := hh.toNat) (code := .slice3C) h0 (by omega) w'
            refine ⟨.slice (if hm.toNat = l.toNat then (h id).addr else (h id).addr.map (·.add (l.toNat * j.size))) (hh.toNat - l.toNat) (hm.toNat - l.toNat), .any _, fun w' _ => ?_⟩
            simp [execOp, ho, hv, em, ez, el, Instr.sliceAt, run_underlying hu, Instr.slice, Instr.sliceBounds, bm w', bh w', bl w', sizeOf, typeInfo, hj, hs]
    · cases he
  · cases he

/-! Maps of strings, read. -/
def DictRd (w : World) (ok : Nat → Prop) (L : List (List UInt8 × D)) (l : List MapEntry) : Prop :=
  l.length = L.length ∧ ∀ (i : Nat) (k : List UInt8) (d : D), L[i]? = some (k, d) → ∃ v b, l[i]? = some ⟨.string ⟨⟨k⟩⟩, v, b⟩ ∧ RdD w ok d v
theorem dict_find {w : World} {ok : Nat → Prop} (s : ByteArray) : ∀ {L : List (List UInt8 × D)} {l : List MapEntry}, DictRd w ok L l → ∀ (j : Nat) (z : D),
    (dhas L s.data.toList = false ∧ dget z L s.data.toList = z ∧ didx L s.data.toList = L.length ∧ Instr.findNow .string (.string s) l j = some none) ∨
    ∃ v, dhas L s.data.toList = true ∧ didx L s.data.toList < L.length ∧ Instr.findNow .string (.string s) l j = some (some (j + didx L s.data.toList, v)) ∧ RdD w ok (dget z L s.data.toList) v ∧
      ∃ d b, L[didx L s.data.toList]? = some (s.data.toList, d) ∧ l[didx L s.data.toList]? = some ⟨.string s, v, b⟩
  | [], l, h, j, z => .inl ⟨rfl, rfl, rfl, by
      obtain rfl : l = [] := List.eq_nil_of_length_eq_zero h.1
      rfl⟩
  | (k, d) :: L, l, h, j, z => by
    match l, h with
    | [], h => exact absurd h.1 (by simp)
    | e :: l, h =>
      obtain ⟨v, b, h1, h2⟩ := h.2 0 k d rfl
      cases h1
      have ht : DictRd w ok L l := ⟨by have := h.1; simpa using this, fun i k' d' hi => by simpa using h.2 (i + 1) k' d' (by simpa using hi)⟩
      by_cases hk : k = s.data.toList
      · have hs : s = ⟨⟨k⟩⟩ := by rw [hk]
        refine .inr ⟨v, by simp [dhas, hk], by simp [didx, hk], ?_, by simpa [dget, hk] using h2, d, b, by simp [didx, hk], by simp [didx, hk]⟩
        have hbe : (s == (⟨⟨k⟩⟩ : ByteArray)) = true := by
          show (s.data == (⟨k⟩ : Array UInt8)) = true
          rw [beq_iff_eq, hs]
        simp only [Instr.findNow, Instr.sameNow, didx, if_pos hk, hbe, Nat.add_zero]
      · have hs : ¬ s = ⟨⟨k⟩⟩ := fun e => hk (by rw [e])
        have hf : Instr.findNow .string (.string s) (⟨.string ⟨⟨k⟩⟩, v, b⟩ :: l) j = Instr.findNow .string (.string s) l (j + 1) := by
          have hbe : (s == (⟨⟨k⟩⟩ : ByteArray)) = false := by
            show (s.data == (⟨k⟩ : Array UInt8)) = false
            rw [beq_eq_false_iff_ne]
            intro e
            exact hk (by rw [e])
          simp only [Instr.findNow, Instr.sameNow, hbe]
        rw [hf]
        simp only [dhas, dget, didx, if_neg hk]
        rcases dict_find s ht (j + 1) z with ⟨h3, h4, h5, h6⟩ | ⟨v', h3, h4, h5, h6, d', b', h7, h8⟩
        · exact .inl ⟨h3, h4, by simp [h5], h6⟩
        · exact .inr ⟨v', h3, by simp; omega, by rw [h5]; congr 3; omega, h6, d', b', by simpa using h7, by simpa using h8⟩
theorem eMapS_spec {P : Program} {t e : TypeId} (h : eMapS P t = some e) : ∃ k, P.underlying t = some (.map k e) ∧ P.underlying k = some .string := by
  unfold eMapS at h
  split at h
  · rename_i k e' hu
    split at h
    · rename_i hk; cases h; exact ⟨k, hu, hk⟩
    · cases h
  · cases h
theorem eZeroV_spec {P : Program} {t : TypeId} {z : Value} (h : eZeroV P t = some z) (w' : World) : (zeroValue t).run P w' = .ok z w' := by
  unfold eZeroV at h
  cases hi : P.info? t with
  | none => simp [hi] at h
  | some i =>
    cases hz : i.zero with
    | none => simp [hi, hz] at h
    | some z' =>
      simp [hi, hz] at h
      subst h
      simp [zeroValue, typeInfo, hi, hz]
theorem run_checkStr {P : Program} {kt : TypeId} (hk : P.underlying kt = some .string) (s : ByteArray) (e : Bool) (w' : World) : (Instr.checkKey e 10000 kt (.string s)).run P w' = .ok () w' := by
  show (Instr.checkKey e (9999 + 1) kt (.string s)).run P w' = .ok () w'
  unfold Instr.checkKey
  simp only [Sem.run_bind, run_underlying hk, Result.andThen]
  rfl
theorem run_findStr {P : Program} {kt : TypeId} (hk : P.underlying kt = some .string) {k : Value} {l : List MapEntry} {r : Option (Nat × Value)} (h : Instr.findNow .string k l 0 = some r) (w' : World) : (Instr.findKey kt k l).run P w' = .ok r w' := by
  simp [Instr.findKey, run_underlying hk, Result.andThen, h]
theorem lookup_sound (r : Rep C st ok h a w) (hE : Tells w ok h a E) {t : TypeId} {y z : Operand} {cm : Bool} (ho : o.op = .lookup t y z cm) (he : roLookup C.P st.objs t cm (E y) (E z) = some (x, p)) (_hp : p) : Yields C w ok h a o x := by
  unfold roLookup at he
  split at he
  · rename_i id s hy hz
    split at he
    · rename_i L zv hl hzz
      obtain ⟨rfl, rfl⟩ := Prod.mk.inj (Option.some.inj he)
      obtain ⟨e, h1, h2⟩ := Option.bind_eq_some_iff.1 hzz
      obtain ⟨kt, hu, hk⟩ := eMapS_spec h1
      have e1 := hE _ _ hy
      have e2 := lit_of (hE _ _ hz)
      generalize hv : a.eval y = v at e1
      cases e1 with
      | mp _ b hb =>
        obtain ⟨b', es, h3, h4, h5, h6⟩ := r.mem.obj id _ hl
        obtain rfl : b' = b := Option.some.inj (h3.symm.trans hb)
        have hlt : b' < w.heap.size := (Array.getElem?_eq_some_iff.1 h4).1
        have hd : DictRd w ok L es.toList := ⟨by simpa using h5, fun i k d hi => by
          obtain ⟨v, hv1, hv2⟩ := h6 i k d hi
          exact ⟨v, i, by simpa using hv1, hv2⟩⟩
        have hget : ∀ w', (∀ b, b < w.heap.size → w'.heap[b]? = w.heap[b]?) → (getObj b').run C.P w' = .ok (.map es L.length) w' := fun w' hw => by
          simp [getObj, Sem.run, hw b' hlt, h4]
        rcases dict_find s hd 0 (.lit zv) with ⟨g1, g2, g3, g4⟩ | ⟨v, g1, g2, g3, g4, _⟩
        · have run : ∀ w', (∀ b, b < w.heap.size → w'.heap[b]? = w.heap[b]?) → (execOp a.eval o).run C.P w' = .ok (.value (if cm then .tuple #[zv, .bool false] else zv)) w' := fun w' hw => by
            simp [execOp, ho, hv, e2, Instr.lookup, run_underlying hu, hget w' hw, run_checkStr hk, run_findStr hk g4, eZeroV_spec h2 w', Result.andThen]
          refine ⟨_, ?_, run⟩
          rw [g1, g2]
          cases cm
          · exact .d _ _ (.lit _)
          · exact .d _ _ (.tup _ _ (fun i => (#[zv, .bool false])[i]?.getD undef) rfl (fun i hi => by
              match i, hi with
              | 0, _ => rfl
              | 1, _ => rfl) (fun i d hd => by
              match i, hd with
              | 0, hd => cases hd; exact .lit _
              | 1, hd => cases hd; exact .lit _))
        · have run : ∀ w', (∀ b, b < w.heap.size → w'.heap[b]? = w.heap[b]?) → (execOp a.eval o).run C.P w' = .ok (.value (if cm then .tuple #[v, .bool true] else v)) w' := fun w' hw => by
            simp [execOp, ho, hv, e2, Instr.lookup, run_underlying hu, hget w' hw, run_checkStr hk, run_findStr hk g3, Result.andThen]
          refine ⟨_, ?_, run⟩
          rw [g1]
          cases cm
          · exact .d _ _ g4
          · exact .d _ _ (.tup _ _ (fun i => (#[v, .bool true])[i]?.getD undef) rfl (fun i hi => by
              match i, hi with
              | 0, _ => rfl
              | 1, _ => rfl) (fun i d hd => by
              match i, hd with
              | 0, hd => cases hd; exact g4
              | 1, hd => cases hd; exact .lit _))
    · cases he
  · cases he
theorem len_sound (r : Rep C st ok h a w) (hE : Tells w ok h a E) {t : TypeId} {y : Operand} {ty : TypeId} (ho : o.op = .call { callee := .builtin .len, args := #[y], argTypes := #[t] }) (he : roLen C.P t (E y) = some (x, p)) (_hp : p) : Yields C w ok h a o x := by
  unfold roLen at he
  split at he
  · rename_i s hy
    split at he
    · rename_i hs
      obtain ⟨rfl, rfl⟩ := Prod.mk.inj (Option.some.inj he)
      have e1 := lit_of (hE _ _ hy)
      refine yields_lit _ fun w' => ?_
      simp [execOp, ho, e1, resolve, invoke, builtin, Builtin.len_, run_underlying (eStr_spec hs), goInt]
    · cases he
  · rename_i n f hy
    obtain ⟨q, hq, hx⟩ := Option.map_eq_some_iff.1 he
    obtain ⟨rfl, rfl⟩ := Prod.mk.inj hx
    have e1 := hE _ _ hy
    generalize hv : a.eval y = v at e1
    cases e1 with
    | d _ _ hx => cases hx with
      | sl _ _ A cap size b off g hc hm hA hl hg hd =>
        refine yields_lit _ fun w' => ?_
        simp [execOp, ho, hv, resolve, invoke, builtin, Builtin.len_, run_underlying (eElem_spec hq).1, goInt]
  · rename_i id n hy
    obtain ⟨q, hq, hx⟩ := Option.map_eq_some_iff.1 he
    obtain ⟨rfl, rfl⟩ := Prod.mk.inj hx
    have e1 := hE _ _ hy
    generalize hv : a.eval y = v at e1
    cases e1 with
    | os _ _ hcap =>
      refine yields_lit _ fun w' => ?_
      simp [execOp, ho, hv, resolve, invoke, builtin, Builtin.len_, run_underlying (eElem_spec hq).1, goInt]
  · rename_i hy
    obtain ⟨q, hq, hx⟩ := Option.map_eq_some_iff.1 he
    obtain ⟨rfl, rfl⟩ := Prod.mk.inj hx
    have e1 := lit_of (hE _ _ hy)
    refine yields_lit _ fun w' => ?_
    simp [execOp, ho, e1, resolve, invoke, builtin, Builtin.len_, run_underlying (eElem_spec hq).1, goInt]
  · cases he

theorem cap_sound (r : Rep C st ok h a w) (hE : Tells w ok h a E) {t : TypeId} {y : Operand} (ho : o.op = .call { callee := .builtin .cap, args := #[y], argTypes := #[t] }) (he : roCap C.P t (E y) = some (x, p)) (_hp : p) : Yields C w ok h a o x := by
  unfold roCap at he
  split at he
  · rename_i hy
    obtain ⟨q, hq, hx⟩ := Option.map_eq_some_iff.1 he
    obtain ⟨rfl, rfl⟩ := Prod.mk.inj hx
    have e1 := lit_of (hE _ _ hy)
    refine yields_lit _ fun w' => ?_
    simp [execOp, ho, e1, resolve, invoke, builtin, Builtin.cap_, run_underlying (eElem_spec hq).1, goInt]
  · cases he
theorem min_sound (r : Rep C st ok h a w) (hE : Tells w ok h a E) {ts : Array TypeId} {y z : Operand} (ho : o.op = .call { callee := .builtin .min, args := #[y, z], argTypes := ts }) (he : roMinMax true (E y) (E z) = some (x, p)) (_hp : p) : Yields C w ok h a o x := by
  unfold roMinMax at he
  split at he
  · rename_i k n k' m hy hz
    obtain ⟨rfl, rfl⟩ := Prod.mk.inj (Option.some.inj he)
    have e1 := lit_of (hE _ _ hy)
    have e2 := lit_of (hE _ _ hz)
    refine yields_lit _ fun w' => ?_
    simp [execOp, ho, e1, e2, resolve, invoke, builtin, Builtin.min_, Builtin.min2]
  · cases he
theorem max_sound (r : Rep C st ok h a w) (hE : Tells w ok h a E) {ts : Array TypeId} {y z : Operand} (ho : o.op = .call { callee := .builtin .max, args := #[y, z], argTypes := ts }) (he : roMinMax false (E y) (E z) = some (x, p)) (_hp : p) : Yields C w ok h a o x := by
  unfold roMinMax at he
  split at he
  · rename_i k n k' m hy hz
    obtain ⟨rfl, rfl⟩ := Prod.mk.inj (Option.some.inj he)
    have e1 := lit_of (hE _ _ hy)
    have e2 := lit_of (hE _ _ hz)
    refine yields_lit _ fun w' => ?_
    simp [execOp, ho, e1, e2, resolve, invoke, builtin, Builtin.max_, Builtin.max2]
  · cases he

theorem conv_sound (r : Rep C st ok h a w) (hE : Tells w ok h a E) {s t : TypeId} {y : Operand} (ho : o.op = .convert s t y) (he : roConv C.P s t (E y) = some (x, p)) (hp : p) : Yields C w ok h a o x := by
  unfold roConv at he
  split at he
  · rename_i k n hy
    split at he
    · rename_i k1 k2 hs ht
      obtain ⟨rfl, rfl⟩ := Prod.mk.inj (Option.some.inj he)
      have e1 := lit_of (hE _ _ hy)
      have hw := inR_wrap hp
      refine yields_lit _ fun w' => ?_
      simp [execOp, ho, e1, convert, run_underlying (eInt_spec hs), run_underlying (eInt_spec ht), Conv.intToInt, hw]
    · rename_i k1 hs ht
      split at he
      · rename_i hst
        obtain ⟨rfl, rfl⟩ := Prod.mk.inj (Option.some.inj he)
        have e1 := lit_of (hE _ _ hy)
        refine yields_lit _ fun w' => ?_
        simp [execOp, ho, e1, convert, run_underlying (eInt_spec hs), run_underlying (eStr_spec hst), Conv.intToString]
      · cases he
    · cases he
  · rename_i s' hy
    split at he
    · rename_i hs
      simp only [Bool.and_eq_true] at hs
      obtain ⟨rfl, rfl⟩ := Prod.mk.inj (Option.some.inj he)
      have e1 := lit_of (hE _ _ hy)
      refine yields_lit _ fun w' => ?_
      simp [execOp, ho, e1, convert, run_underlying (eStr_spec hs.1), run_underlying (eStr_spec hs.2)]
    · cases he
  · cases he

theorem bytesB_spec {P : Program} {t : TypeId} (h : bytesB P t = true) : ∃ e, P.underlying t = some (.slice e) ∧ P.underlying e = some (.int .u8) ∧ ∃ i, P.info? e = some i ∧ i.size = 1 := by
  unfold bytesB at h
  split at h
  · rename_i e he
    obtain ⟨h1, i, h2, h3⟩ := eElem_spec he
    exact ⟨e, h1, eInt_spec (by simpa using h), i, h2, h3⟩
  · cases h
theorem oneByte_row (b : UInt8) : oneByte (byteRow b) = b := by simp [oneByte, byteRow]
theorem run_bytes_str {P : Program} {s t : TypeId} (hs : bytesB P s = true) (ht : eStr P t = true) (w' : World) (A : Option Addr) (n cap : Nat) (l : List UInt8) (hn : l.length = n)
    (hA : 0 < n → ∃ b off, A = some ⟨b, off, none⟩ ∧ ∀ (i : Nat) (x : UInt8), l[i]? = some x → w'.cell? ⟨b, off + i, none⟩ = some (.int .u8 (x.toNat : Int))) :
    (convert s t (.slice A n cap)).run P w' = .ok (.string (bs l)) w' := by
  obtain ⟨e, h1, h2, _⟩ := bytesB_spec hs
  have h3 := eStr_spec ht
  cases A with
  | none =>
    have : n = 0 := by
      rcases Nat.eq_zero_or_pos n with h | h
      · exact h
      · obtain ⟨_, _, h4, _⟩ := hA h; cases h4
    subst this
    obtain rfl : l = [] := List.eq_nil_of_length_eq_zero hn
    exact run_convert_bytes_nil w' s e h1 h2 0 cap t h3
  | some a =>
    rcases Nat.eq_zero_or_pos n with h | h
    · subst h
      obtain rfl : l = [] := List.eq_nil_of_length_eq_zero hn
      have hl : (loadCells a 0).run P w' = .ok (([] : List Int).map (Value.int .u8)).toArray w' := run_loadCells_list (P := P) w' a [] (fun j v hj => by simp at hj)
      rw [run_convert_bytes_string w' s t e _ 0 cap h1 h2 h3, run_bytesToString w' _ 0 cap [] hl]
      rfl
    · obtain ⟨b, off, h4, h5⟩ := hA h
      cases h4
      have := run_convert_bytes_arg (P := P) w' s e h1 h2 b off n cap (l.map fun x => (x.toNat : Int)) (by simpa using hn) (fun i hi => by
        have hil : i < l.length := by omega
        rw [h5 i l[i] (by simp [hil])]
        simp [List.getD, hil]) t h3
      rw [this]
      congr 2
      simp [strOfNums, bs, Function.comp_def]
theorem convB_sound (r : Rep C st ok h a w) (hE : Tells w ok h a E) {s t : TypeId} {y : Operand} (ho : o.op = .convert s t y) (he : roConvB C.P st.objs s t (E y) = some (x, p)) (hp : p) : Yields C w ok h a o x := by
  unfold roConvB at he
  split at he
  · rename_i n f hy
    split at he
    · rename_i hb
      simp only [Bool.and_eq_true] at hb
      obtain ⟨rfl, rfl⟩ := Prod.mk.inj (Option.some.inj he)
      have e1 := hE _ _ hy
      generalize hv : a.eval y = v at e1
      cases e1 with
      | d _ _ hx => cases hx with
        | sl _ _ A cap size b off g hc hm hA hl hg hd =>
          refine ⟨_, .d _ _ (.lit _), fun w' hw' => ?_⟩
          simp only [execOp, ho, hv, Sem.run_bind]
          rw [run_bytes_str hb.1 hb.2 w' A n cap ((List.range n).map fun i => oneByte (f i)) (by simp) (fun hn => ⟨b, off, (hA hn).1, fun i u hi => ?_⟩)]
          · rfl
          · have hin : i < n := by have := (List.getElem?_eq_some_iff.1 hi).1; simpa using this
            simp [hin] at hi
            obtain ⟨c, hc'⟩ := hp i hin
            have hs1 : size = 1 := by rw [← hl i hin, hc']; rfl
            subst hs1
            have h2 := hg i 0 hin (by omega)
            have h3 := hd i 0 (.lit (.int .u8 (c.toNat : Int))) hin (by rw [hc']; rfl)
            rw [hc', oneByte_row] at hi
            subst hi
            generalize g i 0 = u0 at h2 h3
            cases h3
            rw [cell_same (hw' b (r.mem.okb b (hA hn).2).1)]
            simpa using h2
    · cases he
  · rename_i id n hy
    split at he
    · rename_i e sz gr es hlo
      split at he
      · rename_i hb
        simp only [Bool.and_eq_true] at hb
        obtain ⟨rfl, rfl⟩ := Prod.mk.inj (Option.some.inj he)
        obtain ⟨hn, hall⟩ := hp
        have e1 := hE _ _ hy
        generalize hv : a.eval y = v at e1
        cases e1 with
        | os _ _ hcap =>
          obtain ⟨hsz, hcm, h5⟩ := r.mem.obj id _ hlo
          refine ⟨_, .d _ _ (.lit _), fun w' hw' => ?_⟩
          simp only [execOp, ho, hv, Sem.run_bind]
          rw [run_bytes_str hb.1 hb.2 w' (h id).addr n (h id).cap ((es.take n).map oneByte) (by simp; omega) (fun hn0 => ?_)]
          · rfl
          · rcases h5 with ⟨h6, h7, h8⟩ | ⟨b', cur, fz, h1, h2, h3, _, h4, h5, h6⟩
            · subst h7; simp at hn; omega
            · refine ⟨b', 0, by simp [Hd.addr, h1], fun i u hi => ?_⟩
              have hin : i < n := by have := (List.getElem?_eq_some_iff.1 hi).1; simp at this; omega
              have hie : i < es.length := by omega
              have hrow : es[i]? = some es[i] := List.getElem?_eq_getElem hie
              obtain ⟨c, hc'⟩ := hall es[i] (by rw [List.mem_take_iff_getElem]; exact ⟨i, by omega, rfl⟩)
              obtain ⟨h7, h8⟩ := h6 i _ hrow
              have hs1 : sz = 1 := by rw [← h7, hc']; rfl
              subst hs1
              obtain ⟨v', h9, h10⟩ := h8 0 (.lit (.int .u8 (c.toNat : Int))) (by rw [hc']; rfl)
              cases h10
              have hu : u = c := by
                simp [hin, hie, hc', oneByte_row] at hi
                exact hi.symm
              subst hu
              rw [cell_same (hw' b' (r.mem.blk id _ b' hlo h1).1)]
              simpa [World.cell?, h2] using h9
      · cases he
    · cases he
  · rename_i hy
    split at he
    · rename_i hb
      simp only [Bool.and_eq_true] at hb
      obtain ⟨rfl, rfl⟩ := Prod.mk.inj (Option.some.inj he)
      have e1 := lit_of (hE _ _ hy)
      refine yields_lit _ fun w' => ?_
      simp only [execOp, ho, e1, Sem.run_bind]
      rw [run_bytes_str hb.1 hb.2 w' none 0 0 [] rfl (fun h => by omega)]
      rfl
    · cases he
  · cases he
theorem oneV_sound {x : V} {v : Value} (h1 : oneV x = true) (hx : RdV w ok h x v) : v.oneCell' = true := by
  cases hx with
  | d y _ hy => cases hy <;> simp_all [oneV, Value.oneCell']
  | any _ => cases h1
  | vagg => cases h1
  | vtup => cases h1
  | when => cases h1
  | _ => rfl

theorem cellsV_sound {x : V} {v : Value} (h1 : (cellsV x).all oneV = true) (hx : RdV w ok h x v) :
    v.cells.size = (cellsV x).length ∧ ∀ (k : Nat) (y : V), (cellsV x)[k]? = some y → ∃ u, v.cells[k]? = some u ∧ RdV w ok h y u ∧ u.oneCell' = true := by
  have one : cellsV x = [x] → v.cells = #[v] → v.cells.size = (cellsV x).length ∧ ∀ (k : Nat) (y : V), (cellsV x)[k]? = some y → ∃ u, v.cells[k]? = some u ∧ RdV w ok h y u ∧ u.oneCell' = true := by
    intro e1 e2
    rw [e1] at h1 ⊢
    rw [e2]
    refine ⟨rfl, fun k y hk => ?_⟩
    cases k with
    | zero => cases hk; exact ⟨v, rfl, hx, oneV_sound (by simpa using h1) hx⟩
    | succ k => simp at hk
  cases hx with
  | d y _ hy =>
    cases hy with
    | agg ds vs g hn hg hd =>
      refine ⟨by simp [cellsV, Value.cells, hn], fun k z hk => ?_⟩
      have hz : oneV z = true := List.all_eq_true.1 h1 z (List.mem_of_getElem? hk)
      simp only [cellsV, List.getElem?_map] at hk
      obtain ⟨d, hd1, hd2⟩ := Option.map_eq_some_iff.1 hk
      subst hd2
      have hr : RdV w ok h (.d d) (g k) := .d _ _ (hd k d hd1)
      exact ⟨g k, hg k (List.getElem?_eq_some_iff.1 hd1).1, hr, oneV_sound hz hr⟩
    | lit v =>
      have hv : v.oneCell' = true := by simpa [cellsV, oneV] using h1
      exact one rfl (by cases v <;> first | rfl | cases hv)
    | tup => simp [cellsV, oneV] at h1
    | _ => exact one rfl rfl
  | any _ => simp [cellsV, oneV] at h1
  | when => simp [cellsV, oneV] at h1
  | vtup => simp [cellsV, oneV] at h1
  | vagg cs vs g hn hg hx =>
    refine ⟨by simp [cellsV, Value.cells, hn], fun k z hk => ?_⟩
    have hz : oneV z = true := List.all_eq_true.1 h1 z (List.mem_of_getElem? hk)
    simp only [cellsV] at hk
    exact ⟨g k, hg k (List.getElem?_eq_some_iff.1 hk).1, hx k z hk, oneV_sound hz (hx k z hk)⟩
  | _ => exact one rfl rfl

theorem eZero_spec {P : Program} {t : TypeId} {zs : List Value} (he : eZero P t = some zs) (w' : World) : ∃ z, (zeroValue t).run P w' = .ok z w' ∧ z.cells.toList = zs := by
  unfold eZero at he
  cases hi : P.info? t with
  | none => simp [hi] at he
  | some i =>
    cases hz : i.zero with
    | none => simp [hi, hz] at he
    | some z =>
      simp [hi, hz] at he
      exact ⟨z, by simp [zeroValue, typeInfo, hi, hz], he⟩

/-- Cells as they are read. -/
def RowRd (w : World) (ok : Nat → Prop) (h : Nat → Hd) (cells : List V) (cs : Array Value) : Prop :=
  cs.size = cells.length ∧ ∀ (k : Nat) (y : V), cells[k]? = some y → ∃ u, cs[k]? = some u ∧ RdV w ok h y u

theorem foldl_put (off : Nat) : ∀ (l : List Value) (j : Nat) (cs : Array Value), off + j + l.length ≤ cs.size →
    ((l.zipIdx j).foldl (fun cs x => cs.setIfInBounds (off + x.2) x.1) cs).size = cs.size ∧
    ∀ k, ((l.zipIdx j).foldl (fun cs x => cs.setIfInBounds (off + x.2) x.1) cs)[k]? = if off + j ≤ k ∧ k < off + j + l.length then l[k - (off + j)]? else cs[k]?
  | [], j, cs, _ => ⟨rfl, fun k => by simp; omega⟩
  | v :: l, j, cs, hl => by
    simp only [List.length_cons] at hl
    have ih := foldl_put off l (j + 1) (cs.setIfInBounds (off + j) v) (by simp; omega)
    simp only [List.zipIdx_cons, List.foldl_cons]
    refine ⟨by simpa using ih.1, fun k => ?_⟩
    rw [ih.2 k]
    simp only [List.length_cons]
    by_cases hk : k = off + j
    · subst hk
      rw [if_neg (by omega), if_pos (by omega), Array.getElem?_setIfInBounds]
      simp
      omega
    · by_cases hk2 : off + (j + 1) ≤ k ∧ k < off + (j + 1) + l.length
      · rw [if_pos hk2, if_pos (by omega)]
        obtain ⟨i, rfl⟩ : ∃ i, k = off + (j + 1) + i := ⟨k - (off + (j + 1)), by omega⟩
        have e1 : off + (j + 1) + i - (off + (j + 1)) = i := by omega
        have e2 : off + (j + 1) + i - (off + j) = i + 1 := by omega
        rw [e1, e2]
        simp
      · rw [if_neg hk2, if_neg (by omega), Array.getElem?_setIfInBounds, if_neg (fun e => hk e.symm)]

theorem foldl_arr (off : Nat) (vs cs : Array Value) (hl : off + vs.size ≤ cs.size) :
    (vs.zipIdx.foldl (fun cs x => cs.setIfInBounds (off + x.2) x.1) cs).size = cs.size ∧
    ∀ k, (vs.zipIdx.foldl (fun cs x => cs.setIfInBounds (off + x.2) x.1) cs)[k]? = if off ≤ k ∧ k < off + vs.size then vs[k - off]? else cs[k]? := by
  obtain ⟨l⟩ := vs
  have := foldl_put off l 0 cs (by simpa using hl)
  simpa using this

theorem RowRd.lay {cells : List V} {cs : Array Value} {x : V} {v : Value} {off size : Nat} (hr : RowRd w ok h cells cs) (h1 : (cellsV x).all oneV = true) (hx : RdV w ok h x v) (hs : (cellsV x).length = size) (hf : off + size ≤ cells.length) :
    v.cells.size = size ∧ off + v.cells.size ≤ cs.size ∧ RowRd w ok h (cells.take off ++ cellsV x ++ cells.drop (off + size)) (v.cells.zipIdx.foldl (fun cs x => cs.setIfInBounds (off + x.2) x.1) cs) := by
  obtain ⟨h2, h3⟩ := cellsV_sound h1 hx
  obtain ⟨h4, h5⟩ := hr
  have hle : off + v.cells.size ≤ cs.size := by omega
  obtain ⟨h6, h7⟩ := foldl_arr off v.cells cs hle
  refine ⟨by omega, hle, ?_, fun k y hk => ?_⟩
  · rw [h6]
    simp only [List.length_append, List.length_take, List.length_drop]
    omega
  · rw [h7 k]
    by_cases hk1 : k < off
    · rw [if_neg (by omega)]
      rw [List.append_assoc, List.getElem?_append_left (by simp; omega), List.getElem?_take, if_pos hk1] at hk
      exact h5 k y hk
    · by_cases hk2 : k < off + size
      · rw [if_pos (by omega)]
        rw [List.append_assoc, List.getElem?_append_right (by simp; omega), List.getElem?_append_left (by simp; omega)] at hk
        simp only [List.length_take] at hk
        rw [Nat.min_eq_left (by omega)] at hk
        obtain ⟨u, h8, h9, _⟩ := h3 _ y hk
        exact ⟨u, h8, h9⟩
      · rw [if_neg (by omega)]
        rw [List.append_assoc, List.getElem?_append_right (by simp; omega), List.getElem?_append_right (by simp; omega), List.getElem?_drop] at hk
        simp only [List.length_take] at hk
        rw [Nat.min_eq_left (by omega), hs, show off + size + (k - off - size) = k by omega] at hk
        exact h5 k y hk

theorem fillV_sound {R : Operand → Option V} (hR : Tells w ok h a R) {pl : List (Nat × Nat)} {place : Nat → Option (Nat × Nat)} (hpl : ∀ i q, pl[i]? = some q → place i = some q) : ∀ {parts : List (Nat × Operand)} {cells cells' : List V} {cs : Array Value},
    fillV pl cells (parts.map fun q => (q.1, R q.2)) = some cells' → RowRd w ok h cells cs → ∃ cs', Instr.fill place cs (parts.map fun q => (q.1, a.eval q.2)) = some cs' ∧ RowRd w ok h cells' cs'
  | [], cells, cells', cs, he, hr => by
    cases he
    exact ⟨cs, rfl, hr⟩
  | (i, y) :: parts, cells, cells', cs, he, hr => by
    simp only [List.map_cons] at he ⊢
    cases hy : R y with
    | none => simp [hy, fillV] at he
    | some x =>
      rw [hy] at he
      simp only [fillV] at he
      split at he
      · rename_i off size hp
        split at he
        · rename_i hb
          simp only [Bool.and_eq_true, decide_eq_true_eq, beq_iff_eq] at hb
          obtain ⟨h1, h2, h3⟩ := hr.lay hb.1.1 (hR _ _ hy) hb.1.2 hb.2
          obtain ⟨cs', h4, h5⟩ := fillV_sound hR hpl he h3
          refine ⟨cs', ?_, h5⟩
          simp only [Instr.fill, hpl i _ hp]
          rw [if_neg (by simp; omega)]
          exact h4
        · cases he
      · cases he

theorem rowRd_lits {zs : List Value} {z : Value} (hz : z.cells.toList = zs) : RowRd w ok h (litsV zs) z.cells := by
  subst hz
  refine ⟨by simp [litsV], fun k y hk => ?_⟩
  simp only [litsV, List.getElem?_map] at hk
  obtain ⟨u, h1, h2⟩ := Option.map_eq_some_iff.1 hk
  subst h2
  exact ⟨u, by simpa using h1, .d _ _ (.lit u)⟩

theorem rowRd_agg {cells : List V} {cs : Array Value} (hr : RowRd w ok h cells cs) : RdV w ok h (mkAgg cells) (.agg cs) := by
  obtain ⟨h1, h2⟩ := hr
  refine mkAgg_sound (g := fun k => cs.getD k undef) h1 (fun i hi => ?_) (fun i x hx => ?_)
  · have : i < cs.size := by omega
    simp [Array.getElem?_eq_getElem this]
  · obtain ⟨u, h3, h4⟩ := h2 i x hx
    have : cs.getD i undef = u := by simp [Array.getD_eq_getD_getElem?, h3]
    rw [this]; exact h4

theorem run_mapM_places {P : Program} (w' : World) : ∀ {fs : List Field} {pl : List (Nat × Nat)}, fs.mapM (fun f => (eSz P f.type).map fun n => (f.offset, n)) = some pl →
    (fs.mapM fun f => (do pure (f.offset, ← sizeOf f.type) : Sem (Nat × Nat))).run P w' = .ok pl w'
  | [], pl, he => by cases he; simp
  | f :: fs, pl, he => by
    simp only [List.mapM_cons, bind, Option.bind_eq_some_iff, pure] at he
    obtain ⟨q, hq, qs, hqs, hpl⟩ := he
    cases hpl
    obtain ⟨n, hn, rfl⟩ := Option.map_eq_some_iff.1 hq
    have ih := run_mapM_places w' hqs
    simp only [List.mapM_cons, Sem.run_bind, run_sizeOf hn, Result.andThen_ok, Sem.run_pure]
    rw [ih]
    rfl

theorem build_sound {R : Operand → Option V} (hR : Tells w ok h a R) {t : TypeId} {parts : Array (Nat × Operand)} (ho : o.op = .build t parts) (he : roBuild C.P t (parts.toList.map fun q => (q.1, R q.2)) = some (x, p)) : Yields C w ok h a o x := by
  unfold roBuild at he
  split at he
  · rename_i zs pl hz hp
    split at he
    · rename_i cells hf
      obtain ⟨rfl, rfl⟩ := Prod.mk.inj (Option.some.inj he)
      have hparts : (parts.map fun q => (q.1, a.eval q.2)).toList = parts.toList.map fun q => (q.1, a.eval q.2) := by simp
      unfold ePl at hp
      split at hp
      · rename_i fs hu
        obtain ⟨z0, _, hz0⟩ := eZero_spec hz w
        obtain ⟨cs', h1, h2⟩ := fillV_sound hR (place := (pl.toArray[·]?)) (fun i q hq => by simpa using hq) hf (rowRd_lits hz0)
        refine ⟨_, rowRd_agg h2, fun w' _ => ?_⟩
        obtain ⟨z, hz1, hz2⟩ := eZero_spec hz w'
        have hzz : z.cells = z0.cells := Array.toList_inj.1 (hz2.trans hz0.symm)
        have hm : (fs.mapM fun f => (do pure (f.offset, ← sizeOf f.type) : Sem (Nat × Nat))).run C.P w' = .ok pl.toArray w' := by
          have := run_mapM_places w' hp
          rw [← Array.toArray_toList (xs := fs), List.mapM_toArray, Sem.run_map, this]
          rfl
        simp only [execOp, ho, Instr.build, Sem.run_bind, hz1, Result.andThen_ok, run_underlying hu, hm, hparts, hzz, h1, Sem.run_pure]
      · rename_i n e hu
        obtain ⟨sz, hs, rfl⟩ := Option.map_eq_some_iff.1 hp
        obtain ⟨z0, _, hz0⟩ := eZero_spec hz w
        obtain ⟨cs', h1, h2⟩ := fillV_sound hR (place := fun i => some (i * sz, sz)) (fun i q hq => by
          rw [List.getElem?_map] at hq
          obtain ⟨j, hj, hq⟩ := Option.map_eq_some_iff.1 hq
          subst hq
          obtain ⟨hlt, hj⟩ := List.getElem?_eq_some_iff.1 hj
          simp at hj
          rw [hj]) hf (rowRd_lits hz0)
        refine ⟨_, rowRd_agg h2, fun w' _ => ?_⟩
        obtain ⟨z, hz1, hz2⟩ := eZero_spec hz w'
        have hzz : z.cells = z0.cells := Array.toList_inj.1 (hz2.trans hz0.symm)
        simp only [execOp, ho, Instr.build, Sem.run_bind, hz1, Result.andThen_ok, run_underlying hu, run_sizeOf hs, hparts, hzz, h1, Sem.run_pure]
      · cases hp
    · cases he
  · cases he

theorem allR_sound {E : Operand → Option V} (hE : Tells w ok h a E) : ∀ {l : List Operand} {cs : List V}, allR E l = some cs → cs.length = l.length ∧ ∀ (i : Nat) (y : V), cs[i]? = some y → ∃ z, l[i]? = some z ∧ RdV w ok h y (a.eval z)
  | [], cs, he => by cases he; exact ⟨rfl, fun i y hi => by simp at hi⟩
  | z :: l, cs, he => by
    simp only [allR] at he
    split at he
    · rename_i v vs hv hvs
      cases he
      obtain ⟨h1, h2⟩ := allR_sound hE hvs
      refine ⟨by simp [h1], fun i y hi => ?_⟩
      cases i with
      | zero => cases hi; exact ⟨z, rfl, hE _ _ hv⟩
      | succ i => simpa using h2 i y (by simpa using hi)
    · cases he
theorem mkFn_sound {fn : Fn} {cs : List V} {vs : Array Value} {g : Nat → Value} (hn : vs.size = cs.length) (hg : ∀ i, i < cs.length → vs[i]? = some (g i)) (hx : ∀ i x, cs[i]? = some x → RdV w ok h x (g i)) : RdV w ok h (mkFn fn cs) (.func fn #[] vs) := by
  cases cs with
  | nil =>
    obtain rfl : vs = #[] := Array.eq_empty_of_size_eq_zero (by simpa using hn)
    exact .d _ _ (.lit _)
  | cons c r =>
    simp only [mkFn]
    split
    · rename_i ds hds
      have e := allD_spec hds
      rw [e] at hn hg hx
      refine .d _ _ (.clo fn ds vs g (by simpa using hn) (fun i hi => hg i (by simpa using hi)) fun i d hd => ?_)
      have := hx i (.d d) (by simp [hd])
      cases this with | d _ _ h => exact h
    · exact .vclo fn _ vs g hn hg hx
theorem ro_sound {R : Bool → Operand → Option V} (r : Rep C st ok h a w) (hR : ∀ g, g = true → Tells w ok h a (R g)) (he : ro C.P R true st.objs o.op = some (x, p)) (hp : p) : Yields C w ok h a o x := by
  have hE := hR true rfl
  generalize ho : o.op = op at he
  cases op <;> simp only [ro] at he <;> try (cases he; done)
  case move y =>
    obtain ⟨v, hv, hx⟩ := Option.map_eq_some_iff.1 he
    obtain ⟨rfl, rfl⟩ := Prod.mk.inj hx
    exact ⟨_, hE _ _ hv, fun w' _ => by simp [execOp, ho]⟩
  case assign y =>
    obtain ⟨v, hv, hx⟩ := Option.map_eq_some_iff.1 he
    obtain ⟨rfl, rfl⟩ := Prod.mk.inj hx
    exact ⟨_, hE _ _ hv, fun w' _ => by simp [execOp, ho]⟩
  case pick c y z =>
    split at he
    · rename_i b hc
      exact pick_sound hR ho hc he
    · cases he
  case binOp op t y z u => exact bin_sound r hE ho he hp
  case unOp op t y => exact un_sound r hE ho he hp
  case field t y f => exact field_sound r hE ho he hp
  case fieldAddr t y f => exact fieldAddr_sound r hE ho he hp
  case load t y => exact load_sound r hE ho he hp
  case indexAddr t y i => exact indexAddr_sound r hE ho he hp
  case build t parts => exact build_sound hE ho he
  case index t y i => exact index_sound r hE ho he hp
  case lookup t y i b => exact lookup_sound r hE ho he hp
  case slice t y lo hi mx =>
    cases mx with
    | none => exact slice_sound r hE ho (by simpa [ro] using he) hp
    | some m => exact slice3_sound r hE ho (by simpa [ro] using he) hp
  case convert s t y =>
    cases hq : roConv C.P s t (R true y) with
    | some q => rw [hq] at he; exact conv_sound r hE ho (by rw [hq]; exact he) hp
    | none => rw [hq] at he; exact convB_sound r hE ho he hp
  case nilCheck y =>
    unfold roNil at he
    split at he
    · rename_i id off hy
      obtain ⟨rfl, rfl⟩ := Prod.mk.inj (Option.some.inj he)
      have e1 := hE _ _ hy
      refine ⟨_, e1, fun w' _ => ?_⟩
      generalize hv : a.eval y = v at e1
      cases e1 with | bp _ _ b hb => simp [execOp, ho, hv]
    · rename_i id i off hy
      obtain ⟨rfl, rfl⟩ := Prod.mk.inj (Option.some.inj he)
      have e1 := hE _ _ hy
      refine ⟨_, e1, fun w' _ => ?_⟩
      generalize hv : a.eval y = v at e1
      cases e1 with | el _ _ _ b hb => simp [execOp, ho, hv]
    · rename_i cs off hy
      obtain ⟨rfl, rfl⟩ := Prod.mk.inj (Option.some.inj he)
      have e1 := hE _ _ hy
      refine ⟨_, e1, fun w' _ => ?_⟩
      generalize hv : a.eval y = v at e1
      cases e1 with | d _ _ hx => cases hx with | ip => simp [execOp, ho, hv]
    · cases he
  case makeFunc fn first caps =>
    split at he
    · rename_i hf
      obtain ⟨cs, hcs, hx⟩ := Option.map_eq_some_iff.1 he
      obtain ⟨rfl, rfl⟩ := Prod.mk.inj hx
      obtain rfl : first = #[] := by simpa using hf
      obtain ⟨h1, h2⟩ := allR_sound hE hcs
      refine ⟨.func fn #[] (caps.map a.eval), ?_, fun w' _ => by simp [execOp, ho, Instr.makeFunc]⟩
      refine mkFn_sound (g := fun i => (caps.map a.eval).getD i undef) (by simp at h1 ⊢; omega) (fun i hi => ?_) (fun i y hy => ?_)
      · have hsz : i < caps.size := by simp at h1; omega
        simp [Array.getD, hsz]
      · obtain ⟨z, h3, h4⟩ := h2 i y hy
        have h3' : caps[i]? = some z := by simpa using h3
        simpa [Array.getD_eq_getD_getElem?, h3'] using h4
    · cases he
  case extract y i =>
    split at he
    · rename_i cs hy
      obtain ⟨d, hd, hx⟩ := Option.map_eq_some_iff.1 he
      obtain ⟨rfl, rfl⟩ := Prod.mk.inj hx
      have e1 := hE _ _ hy
      generalize hv : a.eval y = v at e1
      cases e1 with
      | d _ _ hx => cases hx with
        | tup _ vs g hn hg hr =>
          refine ⟨g i, .d _ _ (hr i d hd), fun w' _ => ?_⟩
          simp [execOp, ho, hv, Instr.extract, hg i (List.getElem?_eq_some_iff.1 hd).1]
    · rename_i cs hy
      obtain ⟨d, hd, hx⟩ := Option.map_eq_some_iff.1 he
      obtain ⟨rfl, rfl⟩ := Prod.mk.inj hx
      have e1 := hE _ _ hy
      generalize hv : a.eval y = v at e1
      cases e1 with
      | vtup _ vs g hn hg hr =>
        refine ⟨g i, hr i d hd, fun w' _ => ?_⟩
        simp [execOp, ho, hv, Instr.extract, hg i (List.getElem?_eq_some_iff.1 hd).1]
    · cases he
  case call c =>
    obtain ⟨callee, args, ts⟩ := c
    obtain ⟨args⟩ := args
    obtain ⟨ts⟩ := ts
    simp only at he
    split at he
    · split at he
      · exact len_sound r hE (ty := 0) ho he hp
      · cases he
    · split at he
      · exact cap_sound r hE ho he hp
      · cases he
    · split at he
      · exact min_sound r hE ho he hp
      · cases he
    · split at he
      · exact max_sound r hE ho he hp
      · cases he
    · cases he
end
end Go.Lw
