/- OPERATIONS THAT ONLY READ, on list-level states: 'ro' reckons the value and what has to hold; 'ro_sound': the model's operation yields it, in every world in which the old blocks are the same. -/
import Derived.Test.YtdjfgcjlnfnfhaaGreatDoorLwBase
import Derived.LaidEqlPtr
import Derived.Laws.BytesArg
import Derived.Laws.StructEq
import Derived.Lib.Builder
set_option linter.unusedSimpArgs false
set_option linter.unusedVariables false
namespace Go.Lw
open Go.RowKit
def eSz (P:Program) (t:TypeId):Option Nat:=(P.info? t).map (·.size)
def cK (P:Program) (t:TypeId):Option Nat:=(P.info? t).map (·.bytes)
def aK (P:Program) (t:TypeId):Option Bool:=
 match P.underlying t with
 |some (.struct _)|some (.array _ _)=>some true
 |some _=>some false
 |none=>none
def bM (P:Program) (t:TypeId):Option (TypeId×Nat):=
 match P.underlying t with
 |some (.slice e)=>(P.info? e).map fun i=>(e,i.size)
 |_=>none
def kN (P:Program) (t:TypeId):Bool:=
 match P.underlying t with
 |some (.pointer e)=>match P.info? e with|some i=>i.size != 0|none=>false
 |_=>false
def vE (P:Program) (t:TypeId):Option (TypeId×Nat×Nat):=
 match P.underlying t with
 |some (.array n e)=>(P.info? e).map fun i=>(e,n,i.size)
 |_=>none
def aP (P:Program) (t:TypeId):Bool:=match P.underlying t with|some .string=>true|_=>false
def Jp (P:Program) (t:TypeId):Bool:=match P.underlying t with|some .bool=>true|_=>false
def nD (P:Program) (t:TypeId):Option IntKind:=match P.underlying t with|some (.int k)=>some k|_=>none
def aU (P:Program) (t:TypeId) (f:Nat):Option (TypeId×Nat):=
 match P.underlying t with
 |some (.struct fields)=>match fields[f]? with
  |some fl=>match(P.info? fl.type).map (·.size)with
   |some 0=>none
   |some _=>some (fl.type,fl.offset)
   |none=>none
  |none=>none
 |_=>none
def unw (g:Bool):V→V
 | .when g' x=>if g=true→g'=true then x else .any
 |x=>x
def ev (g:Bool) (st:St):Operand→Option V
 | .tmp t=>(look t st.aO).map (unw g)
 | .const v=>some (.d (.lit v))
 | .func f=>some (.d (.lit (.func (.func f) #[] #[])))
 | .global _=>none
def inR (k:IntKind) (n:Int):Prop:=k.min≤n∧n≤k.max
def r8 (op:BinOp) (k:IntKind) (x y:Int):Option (Value×Prop):=
 match op with
 | .add=>some (.int k (x+y),inR k (x+y))
 | .sub=>some (.int k (x-y),inR k (x-y))
 | .mul=>if k= .u64 then some (.int k (k.wrap (x*y)),True)else some (.int k (x*y),inR k (x*y))
 | .quo=>some (.int k (x.tdiv y),y≠0∧inR k (x.tdiv y))
 | .rem=>some (.int k (x.tmod y),y≠0)
 | .eql=>some (.bool (x==y),True)
 | .neq=>some (.bool (x != y),True)
 | .lss=>some (.bool (decide (x<y)),True)
 | .leq=>some (.bool (decide (x≤y)),True)
 | .gtr=>some (.bool (decide (y<x)),True)
 | .geq=>some (.bool (decide (y≤x)),True)
 | .and=>some (.int k (k.wrap ((BitVec.ofInt k.bits x &&& BitVec.ofInt k.bits y).toNat)),True)
 | .or=>some (.int k (k.wrap ((BitVec.ofInt k.bits x ||| BitVec.ofInt k.bits y).toNat)),True)
 | .xor=>some (.int k (k.wrap ((BitVec.ofInt k.bits x ^^^ BitVec.ofInt k.bits y).toNat)),True)
 |_=>none
def HJ (op:BinOp) (k:IntKind) (x y:Int):Option (Value×Prop):=
 match op with
 | .shl=>some (.int k (k.wrap (x*2^(min y.toNat k.bits))),0≤y)
 | .shr=>some (.int k (x.fdiv (2^(min y.toNat k.bits))),0≤y)
 |_=>none
def Jq (op:BinOp) (x y:ByteArray):Option (Value×Prop):=
 match op with
 | .add=>some (.string (x++y),((x.size+y.size:Nat):Int)≤9223372036854775807)
 | .eql=>some (.bool (x.toList==y.toList),True)
 | .neq=>some (.bool (!(x.toList==y.toList)),True)
 | .lss=>some (.bool (Op.bytesLess x.toList y.toList),True)
 | .leq=>some (.bool (Op.bytesLess x.toList y.toList||x.toList==y.toList),True)
 | .gtr=>some (.bool (!(Op.bytesLess x.toList y.toList||x.toList==y.toList)),True)
 | .geq=>some (.bool (!Op.bytesLess x.toList y.toList),True)
 |_=>none
def CV (op:BinOp) (x y:Bool):Option (Value×Prop):=
 match op with
 | .eql=>some (.bool (x==y),True)
 | .neq=>some (.bool (!(x==y)),True)
 |_=>none
def oQ (op:BinOp) (b:Bool):Option (V×Prop):=
 match op with
 | .eql=>some (.d (.lit (.bool b)),True)
 | .neq=>some (.d (.lit (.bool (!b))),True)
 |_=>none
def OS (F:TypeId→Option (List Nat)) (P:Program):List Field→Nat→Option (List Nat)
 |[],_=>some []
 |fl::fs,off=>if fl.name≠ "_" ∧fl.offset=off then match F fl.type,eSz P fl.type with
   |some s,some n=>if n=s.length then(OS F P fs (off+n)).map (s++ ·)else none
   |_,_=>none
  else none
def jH (P:Program):Nat→TypeId→Option (List Nat)
 |0,_=>none
 |d+1,t=>match P.underlying t with
  |some (.int _)=>some [0]
  |some .string=>some [1]
  |some .bool=>some [2]
  |some (.struct fs)=>if P.stoodInHeld t then none else OS (jH P d) P fs.toList 0
  |_=>none
def eEq (P:Program) (t:TypeId):Option (List Nat):=if P.eqGuardType P.depth t then none else match P.underlying t with|some (.struct _)=>jH P 9 t|_=>none
def HK:List D→Option (List Value)
 |[]=>some []
 | .lit v::r=>(HK r).map (v:: ·)
 |_::_=>none
def r9:Nat→Value→Value→Option Bool
 |0,.int k a,.int k' b=>if k=k' then some (a==b)else none
 |1,.string a,.string b=>some (a.toList==b.toList)
 |2,.bool a,.bool b=>some (a==b)
 |_,_,_=>none
def dY:List Nat→List Value→List Value→Option Bool
 |[],[],[]=>some true
 |s::ss,x::xs,y::ys=>match r9 s x y,dY ss xs ys with
  |some b,some c=>some (b&&c)
  |_,_=>none
 |_,_,_=>none
def Jr (P:Program) (op:BinOp) (t:TypeId):Option V→Option V→Option (V×Prop)
 |some (.d (.lit (.int k x))),some (.d (.lit (.int k' y)))=>match HJ op k x y with
  |some r=>some (.d (.lit r.1),r.2)
  |none=>if k=k' then(r8 op k x y).map fun r=>(.d (.lit r.1),r.2)else none
 |some (.d (.lit (.string x))),some (.d (.lit (.string y)))=>(Jq op x y).map fun r=>(.d (.lit r.1),r.2)
 |some (.d (.lit (.bool x))),some (.d (.lit (.bool y)))=>if Jp P t then(CV op x y).map fun r=>(.d (.lit r.1),r.2)else none
 |some (.d (.lit (.pointer none))),some (.d (.lit (.pointer none)))=>if kN P t then oQ op true else none
 |some (.bp _ _),some (.d (.lit (.pointer none)))=>if kN P t then oQ op false else none
 |some (.d (.lit (.pointer none))),some (.bp _ _)=>if kN P t then oQ op false else none
 |some (.bp id off),some (.bp id' off')=>if kN P t&&id==id'&&off==off' then oQ op true else none
 |some (.d (.agg xs)),some (.d (.agg ys))=>match eEq P t,HK xs,HK ys with
  |some s,some X,some Y=>match dY s X Y with
   |some b=>oQ op b
   |none=>none
  |_,_,_=>none
 |_,_=>none
def OT (op:UnOp):Option V→Option (V×Prop)
 |some (.d (.lit (.bool b)))=>match op with| .not=>some (.d (.lit (.bool (!b))),True)|_=>none
 |some (.d (.lit (.int k n)))=>match op with| .neg=>some (.d (.lit (.int k (0-n))),inR k (0-n))|_=>none
 |_=>none
def CW (c:Bool):Option V→Option V→Option (V×Prop)
 |some x,some y=>match x,y with
  | .d (.lit (.bool x)),.d (.lit (.bool y))=>some (.d (.lit (.bool (bif c then x else y))),True)
  |x,y=>some (bif c then x else y,True)
 |_,_=>none
def vF:List V→Option (List D)
 |[]=>some []
 | .d x::r=>(vF r).map (x:: ·)
 |_::_=>none
def w4 (cs:List V):V:=match vF cs with|some ds=> .d (.agg ds)|none=> .fS cs
def yR (P:Program) (t:TypeId) (f:Nat):Option V→Option (V×Prop)
 |some (.d (.agg cs))=>match aU P t f with
  |some (ft,o)=>match aK P ft,eSz P ft with
   |some true,some n=>if o+n≤cs.length then some (.d (.agg ((cs.drop o).take n)),True)else none
   |some false,_=>(cs[o]?).map fun x=>(.d x,True)
   |_,_=>none
  |none=>none
 |some (.fS cs)=>match aU P t f with
  |some (ft,o)=>match aK P ft,eSz P ft with
   |some true,some n=>if o+n≤cs.length then some (w4 ((cs.drop o).take n),True)else none
   |some false,_=>(cs[o]?).map fun x=>(x,True)
   |_,_=>none
  |none=>none
 |_=>none
def lD (P:Program) (t:TypeId) (f:Nat):Option V→Option (V×Prop)
 |some (.bp id off)=>(aU P t f).map fun r=>(.bp id (off+r.2),True)
 |some (.el id i off)=>(aU P t f).map fun r=>(.el id i (off+r.2),True)
 |some (.d (.ip cs off))=>(aU P t f).map fun r=>(.d (.ip cs (off+r.2)),True)
 |_=>none
def w6 (P:Program) (t:TypeId) (cells:List V):Option V:=
 match aK P t,eSz P t with
 |some true,some n=>if n≤cells.length then some (w4 (cells.take n))else none
 |some false,_=>cells.head?
 |_,_=>none
def CX (P:Program) (aD:List (Nat×O)) (t:TypeId):Option V→Option (V×Prop)
 |some (.bp id off)=>match look id aD with
  |some (.box _ cells)=>(w6 P t (cells.drop off)).map fun x=>(x,True)
  |_=>none
 |some (.el id i off)=>match look id aD with
  |some (.own _ _ gr es)=>(w6 P t (((es.getD i gr.2).drop off).map V.d)).map fun x=>(x,i<es.length)
  |_=>none
 |some (.d (.ip cs off))=>(w6 P t ((cs.drop off).map V.d)).map fun x=>(x,True)
 |_=>none
def lE (P:Program) (aD:List (Nat×O)) (t:TypeId):Option V→Option V→Option (V×Prop)
 |some (.d (.sl n f)),some (.d (.lit (.int _ i)))=>(bM P t).map fun r=>(.d (.ip (f i.toNat) 0),0≤i∧i<n∧(f i.toNat).length=r.2)
 |some (.os id n),some (.d (.lit (.int _ i)))=>match look id aD,bM P t with
  |some (.own _ sz _ es),some r=>some (.el id i.toNat 0,0≤i∧i<n∧n≤es.length∧sz=r.2)
  |_,_=>none
 |some (.bp id off),some (.d (.lit (.int _ i)))=>(vE P t).map fun r=>(.bp id (off+i.toNat*r.2.2),0≤i∧i<r.2.1)
 |some (.d (.ip cs off)),some (.d (.lit (.int _ i)))=>(vE P t).map fun r=>(.d (.ip cs (off+i.toNat*r.2.2)),0≤i∧i<r.2.1)
 |_,_=>none
def Ml:Option V→Option (V×Prop)
 |some (.bp id off)=>some (.bp id off,True)
 |some (.el id i off)=>some (.el id i off,True)
 |some (.d (.ip cs off))=>some (.d (.ip cs off),True)
 |_=>none
def Mm (R:Operand→Option V):List Operand→Option (List V)
 |[]=>some []
 |x::r=>match R x,Mm R r with
  |some v,some vs=>some (v::vs)
  |_,_=>none
def OU (fn:Fn) (cs:List V):V:=match cs with
 |[]=> .d (.lit (.func fn #[] #[]))
 |c::r=>match vF (c::r)with|some ds=> .d (.clo fn ds)|none=> .eR fn (c::r)
def zG (s:ByteArray) (i:Nat):UInt8:=s.data.toList.getD i 0
def yS (P:Program) (t:TypeId):Option V→Option V→Option (V×Prop)
 |some (.d (.lit (.string s))),some (.d (.lit (.int _ i)))=>if aP P t then some (.d (.lit (.int .u8 ((zG s i.toNat).toNat:Int))),0≤i∧i<s.size)else none
 |_,_=>none
def bnd (dflt:Int):Option (Option V)→Option Int
 |none=>some dflt
 |some (some (.d (.lit (.int _ i))))=>some i
 |_=>none
def yT (P:Program) (aD:List (Nat×O)) (t:TypeId) (lo hi:Option (Option V)):Option V→Option (V×Prop)
 |some (.d (.lit (.string s)))=>match aP P t,bnd 0 lo,bnd s.size hi with
  |true,some l,some h=>some (.d (.lit (.string (s.extract l.toNat h.toNat))),0≤l∧l≤h∧h≤s.size)
  |_,_,_=>none
 |some (.d (.sl n f))=>match bM P t,bnd 0 lo,bnd n hi with
  |some r,some l,some h=>some (.d (.sl (h.toNat-l.toNat) fun i=>f (l.toNat+i)),0≤l∧l≤h∧h≤n∧ ∀i,i<n→(f i).length=r.2)
  |_,_,_=>none
 |some (.os id n)=>match look id aD,bM P t,lo,bnd n hi with
  |some (.own _ _ _ es),some _,none,some h=>some (.os id h.toNat,0≤h∧h≤n∧n≤es.length)
  |some (.own _ sz _ es),some r,some (some (.d (.lit (.int _ l)))),some h=>if sz=r.2 then some (.ot id l.toNat (h.toNat-l.toNat),0≤l∧l≤h∧(h≤n∨h≤es.length))else none
  |_,_,_,_=>none
 |some (.d (.lit (.slice none 0 0)))=>match bM P t,lo,bnd 0 hi with
  |some _,none,some h=>some (.d (.lit (.slice none 0 0)),h=0)
  |_,_,_=>none
 |_=>none
def tC (P:Program) (aD:List (Nat×O)) (t:TypeId) (lo hi:Option (Option V)) (mx:Option V):Option V→Option (V×Prop)
 |some (.os id n)=>match look id aD,bM P t,bnd 0 lo,hi,mx with
  |some (.own _ _ _ _),some _,some l,some (some (.d (.lit (.int _ h)))),some (.d (.lit (.int _ m)))=>some (.any,0≤l∧l≤h∧h≤m∧m≤n)
  |_,_,_,_,_=>none
 |some (.d (.sl n f))=>match bM P t,bnd 0 lo,hi,mx with
  |some r,some l,some (some (.d (.lit (.int _ h)))),some (.d (.lit (.int _ m)))=>some (.d (.sl (h.toNat-l.toNat) fun i=>f (l.toNat+i)),0≤l∧l≤h∧h≤m∧m≤n∧ ∀i,i<n→(f i).length=r.2)
  |_,_,_,_=>none
 |_=>none
def Js (P:Program) (t:TypeId):Option V→Option (V×Prop)
 |some (.d (.lit (.string s)))=>if aP P t then some (.d (.lit (.int .i64 s.size)),True)else none
 |some (.d (.sl n _))=>(bM P t).map fun _=>(.d (.lit (.int .i64 n)),True)
 |some (.os _ n)=>(bM P t).map fun _=>(.d (.lit (.int .i64 n)),True)
 |some (.d (.lit (.slice none 0 0)))=>(bM P t).map fun _=>(.d (.lit (.int .i64 0)),True)
 |_=>none
def Jt (P:Program) (t:TypeId):Option V→Option (V×Prop)
 |some (.d (.lit (.slice none 0 0)))=>(bM P t).map fun _=>(.d (.lit (.int .i64 0)),True)
 |_=>none
def vG (P:Program) (t:TypeId):Nat→Bool
 |0=>match P.underlying t with
  |some .string=>true
  |_=>false
 |1=>match P.underlying t with
  |some (.int _)=>true
  |_=>false
 |2=>(match P.underlying t with
  |some (.struct fs)=>match fs.toList with
   |[f,g]=>(match P.underlying f.type with
      |some (.int _)=>true
      |_=>false)&&(match P.underlying g.type with
      |some (.int _)=>true
      |_=>false)&&f.offset==0&&g.offset==1
   |_=>false
  |_=>false)&&jH P 9 t==some [0,0]
 |_=>false
def jJ (P:Program) (t:TypeId) (kd:Nat):Option TypeId:=match P.underlying t with
 |some (.map k e)=>if vG P k kd then some e else none
 |_=>none
def kO (P:Program) (t:TypeId):Option Value:=(P.info? t).bind fun i=>i.zero
def keyOf:D→Option Key
 | .lit (.string s)=>some (.s s.data.toList)
 | .lit (.int .i64 n)=>some (.i n)
 | .agg [.lit (.int .i64 a),.lit (.int .i64 b)]=>some (.ii a b)
 |_=>none
def dT (z:D):List (Key×D)→Key→D
 |[],_=>z
 |(k',d)::r,k=>if k'=k then d else dT z r k
def fL:List (Key×D)→Key→Bool
 |[],_=>false
 |(k',_)::r,k=>if k'=k then true else fL r k
def e8:List (Key×D)→Key→Nat
 |[],_=>0
 |(k',_)::r,k=>if k'=k then 0 else e8 r k+1
def iD (ks:List Key) (f:Nat→D):List (Key×D):=(List.range ks.length).map fun i=>(ks.getD i (.i 0),f i)
def tD (P:Program) (aD:List (Nat×O)) (t:TypeId) (commaOk:Bool):Option V→Option V→Option (V×Prop)
 |some (.mp id),some (.d x)=>match look id aD,keyOf x with
  |some (.cB kd L),some k=>match(jJ P t kd).bind (kO P)with
   |some z=>if k.kd=kd then some (bif commaOk then .d (.tup [dT (.lit z) L k,.lit (.bool (fL L k))])else .d (dT (.lit z) L k),True)else none
   |_=>none
  |_,_=>none
 |some (.d (.mp kd ks f)),some (.d x)=>match keyOf x,(jJ P t kd).bind (kO P)with
  |some k,some z=>if k.kd=kd then some (bif commaOk then .d (.tup [dT (.lit z) (iD ks f) k,.lit (.bool (fL (iD ks f) k))])else .d (dT (.lit z) (iD ks f) k),True)else none
  |_,_=>none
 |_,_=>none
def kP (least:Bool):Option V→Option V→Option (V×Prop)
 |some (.d (.lit (.int k x))),some (.d (.lit (.int _ y)))=>some (.d (.lit (.int k (if least then(if y<x then y else x)else(if x<y then y else x)))),True)
 |_,_=>none
def zH (P:Program) (s t:TypeId):Option V→Option (V×Prop)
 |some (.d (.lit (.int _ n)))=>match nD P s,nD P t with
  |some _,some k=>some (.d (.lit (.int k n)),inR k n)
  |some _,none=>if aP P t then some (.d (.lit (.string (Utf8.encode n))),True)else none
  |_,_=>none
 |some (.d (.lit (.string x)))=>if aP P s&&aP P t then some (.d (.lit (.string x)),True)else none
 |_=>none
def bs (l:List UInt8):ByteArray:=⟨⟨l⟩⟩
def aZ (b:UInt8):List D:=[.lit (.int .u8 (b.toNat:Int))]
def isRow (r:List D):Prop:= ∃b,r=aZ b
def gR:List D→UInt8
 |[.lit (.int .u8 n)]=>UInt8.ofNat n.toNat
 |_=>0
def lW (P:Program) (t:TypeId):Bool:=match bM P t with|some (e,1)=>nD P e==some .u8|_=>false
def yU (P:Program) (aD:List (Nat×O)) (s t:TypeId):Option V→Option (V×Prop)
 |some (.d (.sl n f))=>if lW P s&&aP P t then some (.d (.lit (.string (bs ((List.range n).map fun i=>gR (f i))))),∀i,i<n→isRow (f i))else none
 |some (.os id n)=>match look id aD with
  |some (.own _ _ _ es)=>if lW P s&&aP P t then some (.d (.lit (.string (bs ((es.take n).map gR)))),n≤es.length∧ ∀l∈es.take n,isRow l)else none
  |_=>none
 |some (.d (.lit (.slice none 0 0)))=>if lW P s&&aP P t then some (.d (.lit (.string (bs []))),True)else none
 |_=>none
def orR (x y:Option (V×Prop)):Option (V×Prop):=match x with|some r=>some r|none=>y
def Wz (fn:Fn):List (Option V)→Option (V×Prop)
 |[]=>some (.d (.lit (.func fn #[] #[])),True)
 |_=>none
def bH:V→List V
 | .d (.agg ds)=>ds.map V.d
 | .fS cs=>cs
 |x=>[x]
def jK:V→Bool
 | .d (.lit v)=>v.oneCell'
 | .d (.sl ..)| .d (.ip ..)| .d (.clo ..)| .d (.mp ..)| .bp .. | .el .. | .os .. | .ot .. | .mp .. | .eR .. =>true
 |_=>false
def BW (pl:List (Nat×Nat)):List V→List (Nat×Option V)→Option (List V)
 |cells,[]=>some cells
 |cells,(i,some x)::rest=>match pl[i]? with
  |some (off,size)=>if(bH x).all jK&&(bH x).length==size&&decide (off+size≤cells.length)then BW pl (cells.take off++bH x++cells.drop (off+size)) rest else none
  |none=>none
 |_,(_,none)::_=>none
def ePl (P:Program) (t:TypeId):Option (List (Nat×Nat)):=
 match P.underlying t with
 |some (.struct fs)=>fs.toList.mapM fun f=>(eSz P f.type).map fun n=>(f.offset,n)
 |some (.array n e)=>(eSz P e).map fun s=>(List.range n).map fun i=>(i*s,s)
 |_=>none
def aL (P:Program) (t:TypeId):Option (List Value):=(P.info? t).bind fun i=>i.zero.map fun z=>z.cells.toList
def ED (zs:List Value):List V:=zs.map fun z=> .d (.lit z)
def yV (P:Program) (t:TypeId) (parts:List (Nat×Option V)):Option (V×Prop):=
 match aL P t,ePl P t with
 |some zs,some pl=>match BW pl (ED zs) parts with
  |some cells=>some (w4 cells,True)
  |none=>none
 |_,_=>none
def ro (P:Program) (R:Bool→Operand→Option V) (g:Bool) (aD:List (Nat×O)):Op→Option (V×Prop)
 | .move x| .assign x=>(R g x).map fun v=>(v,True)
 | .pick c x y=>match R g c with
   |some (.d (.lit (.bool b)))=>CW b (R (g&&b) x) (R (g&& !b) y)
   |_=>none
 | .binOp op t x y _=>Jr P op t (R g x) (R g y)
 | .unOp op _ x=>OT op (R g x)
 | .field t x f=>yR P t f (R g x)
 | .fieldAddr t x f=>lD P t f (R g x)
 | .load t x=>CX P aD t (R g x)
 | .indexAddr t x i=>lE P aD t (R g x) (R g i)
 | .build t parts=>yV P t (parts.toList.map fun q=>(q.1,R g q.2))
 | .index t x i=>yS P t (R g x) (R g i)
 | .lookup t x i b=>tD P aD t b (R g x) (R g i)
 | .slice t x lo hi none=>yT P aD t (lo.map (R g)) (hi.map (R g)) (R g x)
 | .slice t x lo hi (some m)=>tC P aD t (lo.map (R g)) (hi.map (R g)) (R g m) (R g x)
 | .convert s t x=>orR (zH P s t (R g x)) (yU P aD s t (R g x))
 | .nilCheck x=>Ml (R g x)
 | .makeFunc fn first caps=>if first.isEmpty then(Mm (R g) caps.toList).map fun cs=>(OU fn cs,True)else none
 | .extract x i=>match R g x with
   |some (.d (.tup cs))=>(cs[i]?).map fun y=>(.d y,True)
   |some (.gG cs)=>(cs[i]?).map fun y=>(y,True)
   |_=>none
 | .call c=>match c.callee with
   | .builtin .len=>match c.args.toList,c.argTypes.toList with
     |[x],[t]=>Js P t (R g x)
     |_,_=>none
   | .builtin .cap=>match c.args.toList,c.argTypes.toList with
     |[x],[t]=>Jt P t (R g x)
     |_,_=>none
   | .builtin .min=>match c.args.toList with|[x,y]=>kP true (R g x) (R g y)|_=>none
   | .builtin .max=>match c.args.toList with|[x,y]=>kP false (R g x) (R g y)|_=>none
   |_=>none
 |_=>none
section
variable {C:Ctx} {st:St} {ok:Nat→Prop} {h:Nat→Hd} {a:Act} {w:World}
theorem Kr {g:Bool} (hg:g=true) {y:V} {v:Value} (hy:RdV w ok h y v):RdV w ok h (unw g y) v:=by
 unfold unw
 split
 ·rename_i g' x
  split
  ·rename_i hi
   cases hy with|when _ _ _ ht _=>exact ht (hi hg)
  ·exact .any v
 ·exact hy
theorem aT {g:Bool} (hg:g=true) (r:Rep C st ok h a w) {x:Operand} {y:V} (he:ev g st x=some y):RdV w ok h y (a.eval x):=by
 cases x with
 |tmp t=>
  obtain⟨z,hz,rfl⟩:=Option.map_eq_some_iff.1 he
  obtain⟨_,v,hv,hr⟩:=r.slot t z hz
  have:a.eval (.tmp t)=v:=by simp[Act.eval,Array.getD_eq_getD_getElem?,hv]
  rw[this];exact Kr hg hr
 |const v=>cases he;exact .d _ _ (.lit v)
 |func f=>cases he;exact .d _ _ (.lit _)
 |global g=>cases he
def Yields (C:Ctx) (w:World) (ok:Nat→Prop) (h:Nat→Hd) (a:Act) (o:Oper) (x:V):Prop:=
 ∃v,RdV w ok h x v∧ ∀w',(∀b,b<w.heap.size→w'.heap[b]?=w.heap[b]?)→(execOp a.eval o).run C.P w'= .ok (.value v) w'
theorem aX {y:Value} {v:Value} (hr:RdV w ok h (.d (.lit y)) v):v=y:=by
 cases hr with|d _ _ hx=>cases hx;rfl
theorem mD {k:IntKind} {n:Int} (hn:inR k n):k.wrap n=n:=by
 obtain⟨h1,h2⟩:=hn
 cases k<;>simp[IntKind.min,IntKind.max,IntKind.signed,IntKind.bits]at h1 h2<;>simp only[IntKind.wrap,IntKind.signed,IntKind.bits]<;>simp<;>omega
end
section
variable {C:Ctx} {st:St} {ok:Nat→Prop} {h:Nat→Hd} {a:Act} {w:World} {o:Oper} {x:V} {p:Prop} {E:Operand→Option V}
def fI (w:World) (ok:Nat→Prop) (h:Nat→Hd) (a:Act) (E:Operand→Option V):Prop:= ∀x y,E x=some y→RdV w ok h y (a.eval x)
theorem bD (y:Value) (hr: ∀w',(execOp a.eval o).run C.P w'= .ok (.value y) w'):Yields C w ok h a o (.d (.lit y)):=
 ⟨y,.d _ _ (.lit y),fun w' _=>hr w'⟩
theorem CY {op:BinOp} {k:IntKind} {n m:Int} {v:Value} (he:r8 op k n m=some (v,p)) (hp:p) (t:TypeId) (P:Program) (w':World) (h1:op≠ .shl) (h2:op≠ .shr):
 (binOp op t (.int k n) (.int k m)).run P w'= .ok v w':=by
 cases op<;>first|(cases he;done)|(simp only[r8]at he;split at he<;>obtain⟨rfl,rfl⟩:=Prod.mk.inj (Option.some.inj he)<;>first|(simp[binOp,Op.intArith];done)|(have hw:=mD hp;simp[binOp,Op.intArith,hw];done))|(obtain⟨rfl,rfl⟩:=Prod.mk.inj (Option.some.inj he);first|(simp[binOp,Op.intCmp];done)|(simp[binOp,Op.intBits];done)|(have hw:=mD hp;simp[binOp,Op.intArith,hw];done)|(simp[binOp,Op.intDiv,hp];done)|(have h0:=hp.1;have hw:=mD hp.2;simp[binOp,Op.intDiv,h0,hw];done))
theorem CZ {op:BinOp} {k:IntKind} {n m:Int} {v:Value} (he:HJ op k n m=some (v,p)) (hp:p) (yk:IntKind) (t:TypeId) (P:Program) (w':World):
 (binOp op t (.int k n) (.int yk m)).run P w'= .ok v w':=by
 cases op<;>first
  |(cases he;done)
  |(obtain⟨rfl,rfl⟩:=Prod.mk.inj (Option.some.inj he)
    have hm: ¬m<0:=by omega
    simp only[binOp,Op.shift,if_neg hm,Sem.run_pure])
theorem EE {op:BinOp} {n m:ByteArray} {v:Value} (he:Jq op n m=some (v,p)) (hp:p) (t:TypeId) (P:Program) (w':World):
 (binOp op t (.string n) (.string m)).run P w'= .ok v w':=by
 cases op<;>first
  |(cases he;done)
  |(obtain⟨rfl,rfl⟩:=Prod.mk.inj (Option.some.inj he)
    first
     |(simp[binOp,Op.stringOp];done)
     |(have hm: ¬(((n.size+m.size:Nat):Int)>IntKind.i64.max):=by simp only[IntKind.max,IntKind.signed,IntKind.bits];simp;omega
       simp only[binOp,Op.stringOp,if_neg hm,Sem.run_pure]))
theorem C0 {op:BinOp} {n m:Bool} {v:Value} (he:CV op n m=some (v,p)) (_hp:p) (t:TypeId) (P:Program) (hb:Jp P t=true) (w':World):
 (binOp op t (.bool n) (.bool m)).run P w'= .ok v w':=by
 have hu:P.underlying t=some .bool:=by
  unfold Jp at hb
  split at hb<;>simp_all
 cases op<;>first|(cases he;done)|(obtain⟨rfl,rfl⟩:=Prod.mk.inj (Option.some.inj he);(have e:=run_equal_bool (P:=P) w' t n m hu;simp[binOp,e]))
theorem vH {P:Program} {t:TypeId} (h:kN P t=true): ∃e i,P.underlying t=some (.pointer e)∧P.info? e=some i∧i.size≠0:=by
 unfold kN at h
 split at h
 ·rename_i e hu
  split at h
  ·rename_i i hi
   exact⟨e,i,hu,hi,q8⟩
  ·cases h
 ·cases h
theorem zI {P:Program} {t:TypeId} (h:kN P t=true) (q:Option Addr) (w':World):(binOp .eql t (.pointer q) (.pointer none)).run P w'= .ok (.bool q.isNone) w'∧(binOp .neq t (.pointer q) (.pointer none)).run P w'= .ok (.bool (!q.isNone)) w':=by
 obtain⟨e,i,hu,hi,hz⟩:=vH h
 have key: ∀d:Nat,(Op.equalIn (d+1) t (.pointer q) (.pointer none)).run P w'= .ok q.isNone w':=fun d=>by
  cases q<;>simp[Op.equalIn,run_underlying hu]
 constructor<;>(simp only[binOp];simp[Op.equal,Op.maxDepth,key 9999])
theorem HL {P:Program} {t:TypeId} (h:kN P t=true) (q:Option Addr) (w':World):(binOp .eql t (.pointer none) (.pointer q)).run P w'= .ok (.bool q.isNone) w'∧(binOp .neq t (.pointer none) (.pointer q)).run P w'= .ok (.bool (!q.isNone)) w':=by
 obtain⟨e,i,hu,hi,hz⟩:=vH h
 have key: ∀d:Nat,(Op.equalIn (d+1) t (.pointer none) (.pointer q)).run P w'= .ok q.isNone w':=fun d=>by
  cases q<;>simp[Op.equalIn,run_underlying hu]
 constructor<;>(simp only[binOp];simp[Op.equal,Op.maxDepth,key 9999])
theorem C1 {P:Program} {t:TypeId} (h:kN P t=true) (q:Addr) (w':World):(binOp .eql t (.pointer (some q)) (.pointer (some q))).run P w'= .ok (.bool true) w'∧(binOp .neq t (.pointer (some q)) (.pointer (some q))).run P w'= .ok (.bool false) w':=by
 obtain⟨e,i,hu,hi,hz⟩:=vH h
 have key: ∀d:Nat,(Op.equalIn (d+1) t (.pointer (some q)) (.pointer (some q))).run P w'= .ok true w':=fun d=>by
  simp[Op.equalIn,run_underlying hu,sizeOf,typeInfo,hi,run_sameAddr_same]
 constructor<;>(simp only[binOp];simp[Op.equal,Op.maxDepth,key 9999])
theorem Mn {P:Program} {t:TypeId} {n:Nat} (he:eSz P t=some n): ∃i,P.info? t=some i∧i.size=n:=Option.map_eq_some_iff.1 he
theorem dS {P:Program} {t:TypeId} {b:Bool} (he:aK P t=some b) (w':World):(isAgg t).run P w'= .ok b w':=by
 unfold aK at he
 unfold isAgg
 split at he
 ·rename_i f hu
  cases he;simp[run_underlying hu]
 ·rename_i f hu
  cases he;simp[run_underlying hu]
 ·rename_i d hu hn
  cases he
  rename_i h1 h2
  simp only[Sem.run_bind,run_underlying hn,Result.andThen_ok]
  first|rfl|(split<;>first|rfl|simp_all)
 ·cases he
theorem run_sizeOf {P:Program} {t:TypeId} {n:Nat} (he:eSz P t=some n) (w':World):(sizeOf t).run P w'= .ok n w':=by
 obtain⟨i,hi,hs⟩:=Mn he
 simp[sizeOf,typeInfo,hi,hs]
def AsV (P:Program) (t:TypeId) (X:List Value) (v:Value):Prop:=(aK P t=some true∧v= .agg X.toArray)∨(aK P t=some false∧X=[v])
theorem zJ {s:List Nat} {X Y:List Value} {b:Bool} (h:dY s X Y=some b):X.length=s.length∧Y.length=s.length:=by
 induction s generalizing X Y b with
 |nil=>cases X<;>cases Y<;>simp_all[dY]
 |cons n s ih=>
  cases X with
  |nil=>simp[dY]at h
  |cons x X=>cases Y with
   |nil=>simp[dY]at h
   |cons y Y=>
    simp only[dY]at h
    split at h
    ·rename_i b c h1 h2
     have:=ih h2
     simp[this.1,this.2]
    ·cases h
theorem Br {s r:List Nat} {X Y:List Value} {b:Bool} (h:dY (s++r) X Y=some b): ∃b1 b2,dY s (X.take s.length) (Y.take s.length)=some b1∧dY r (X.drop s.length) (Y.drop s.length)=some b2∧b=(b1&&b2):=by
 induction s generalizing X Y b with
 |nil=>exact⟨true,b,rfl,q8,qE⟩
 |cons n s ih=>
  cases X with
  |nil=>simp[dY]at h
  |cons x X=>cases Y with
   |nil=>simp[dY]at h
   |cons y Y=>
    simp only[List.cons_append,dY]at h
    split at h
    ·rename_i b1 c h1 h2
     obtain⟨b2,b3,h3,h4,rfl⟩:=ih h2
     refine⟨b1&&b2,b3,?_,by simpa using h4,?_⟩
     ·simp[dY,h1,h3]
     ·rw[←Option.some.inj h,Bool.and_assoc]
    ·cases h
theorem BX {P:Program} {t:TypeId} {n off:Nat} {Z:List Value} {b:Bool} (ha:aK P t=some b) (hn:eSz P t=some n) (hb:b=false→n=1) (hz:off+n≤Z.length) (w':World):
 ∃v,(part t Z.toArray off).run P w'= .ok v w'∧AsV P t ((Z.drop off).take n) v:=by
 cases b with
 |true=>
  refine⟨_,?_,.inl ⟨ha,rfl⟩⟩
  simp only[part,Sem.run_bind,dS ha,Result.andThen_ok,if_true,run_sizeOf hn,Sem.run_pure]
  congr 2
  apply Array.ext'
  simp[List.extract_eq_take_drop]
 |false=>
  obtain rfl:=hb rfl
  have hlt:off<Z.length:=by omega
  refine⟨Z[off],?_,.inr ⟨ha,?_⟩⟩
  ·simp[part,dS ha,List.getElem?_eq_getElem hlt]
  ·rw[List.drop_eq_getElem_cons hlt];rfl
theorem Mo {P:Program} {d d':Nat} (ih: ∀t s,jH P d t=some s→ ∀X Y b,dY s X Y=some b→ ∀x y,AsV P t X x→AsV P t Y y→ ∀w',(Op.equalIn (d+d') t x y).run P w'= .ok b w')
 (hag: ∀t s,jH P d t=some s→ ∃b,aK P t=some b∧(b=false→s.length=1)):
 ∀(fs:List Field) (off:Nat) (s:List Nat),OS (jH P d) P fs off=some s→ ∀(X Y:List Value) (b:Bool),dY s (X.drop off) (Y.drop off)=some b→off≤X.length→off≤Y.length→ ∀w',(Op.eqFields (d+d') X.toArray Y.toArray fs).run P w'= .ok b w':=by
 intro fs
 induction fs with
 |nil=>
  intro off s hs X Y b hb _ _ w'
  cases hs
  have hl:=zJ hb
  rw[List.length_eq_zero_iff.1 hl.1,List.length_eq_zero_iff.1 hl.2]at hb
  cases hb
  simp[Op.eqFields]
 |cons fl fs ihf=>
  intro off s hs X Y b hb hx hy w'
  simp only[OS]at hs
  split at hs
  ·rename_i hc
   split at hs
   ·rename_i s1 n h1 h2
    split at hs
    ·rename_i hn
     obtain⟨r,hr,rfl⟩:=Option.map_eq_some_iff.1 hs
     obtain⟨b1,b2,h3,h4,rfl⟩:=Br hb
     have hl:=zJ hb
     simp only[List.length_drop,List.length_append]at hl
     subst hn
     obtain⟨ba,ha,hba⟩:=hag _ _ h1
     obtain⟨vx,rx,ax⟩:=BX (P:=P) (t:=fl.type) (Z:=X) ha h2 hba (off:=off) qD w'
     obtain⟨vy,ry,ay⟩:=BX (P:=P) (t:=fl.type) (Z:=Y) ha h2 hba (off:=off) qD w'
     have he:=ih _ _ h1 _ _ _ h3 _ _ ax ay w'
     have hrest:=ihf (off+s1.length) r hr X Y b2 (by simpa[List.drop_drop,Nat.add_comm]using h4) qD qD w'
     obtain⟨hc1,hc2⟩:=hc
     simp only[Op.eqFields,if_pos hc1,hc2,Sem.run_bind,rx,ry,Result.andThen_ok,he]
     cases b1 with
     |true=>simpa using hrest
     |false=>simp
    ·cases hs
   ·cases hs
  ·cases hs
theorem EF {P:Program} {d:Nat} {t:TypeId} {s:List Nat} (h:jH P d t=some s): ∃b,aK P t=some b∧(b=false→s.length=1):=by
 cases d with
 |zero=>cases h
 |succ d=>
  simp only[jH]at h
  split at h
  ·rename_i hu;cases h;exact⟨false,qaN,fun _=>rfl⟩
  ·rename_i hu;cases h;exact⟨false,qaN,fun _=>rfl⟩
  ·rename_i hu;cases h;exact⟨false,qaN,fun _=>rfl⟩
  ·rename_i hu;exact⟨true,qaN,fun h=>by cases h⟩
  ·cases h
theorem w7 {P:Program}: ∀(d:Nat) (d':Nat) (t:TypeId) (s:List Nat),jH P d t=some s→ ∀X Y b,dY s X Y=some b→ ∀x y,AsV P t X x→AsV P t Y y→ ∀w',(Op.equalIn (d+d') t x y).run P w'= .ok b w':=by
 intro d
 induction d with
 |zero=>intro d' t s hs;cases hs
 |succ d ih=>
  intro d' t s hs X Y b hb x y hx hy w'
  rw[show d+1+d'=(d+d')+1 by omega]
  have leaf: ∀n,s=[n]→aK P t=some false→ ∃b',r9 n x y=some b'∧b=b':=by
   intro n hn ha
   subst hn
   rcases hx with⟨h1,_⟩|⟨_,h1⟩
   ·rw[ha]at h1;cases h1
   rcases hy with⟨h2,_⟩|⟨_,h2⟩
   ·rw[ha]at h2;cases h2
   subst h1;subst h2
   simp only[dY]at hb
   split at hb
   ·rename_i b1 c h3 h4
    cases h4
    exact⟨b1,h3,by rw[←Option.some.inj hb];simp⟩
   ·cases hb
  simp only[jH]at hs
  split at hs
  ·rename_i k hu
   obtain⟨b',h1,rfl⟩:=leaf 0 (Option.some.inj hs).symm qaN
   cases x<;>cases y<;>simp only[r9]at h1<;>(first|(cases h1;done)|skip)
   split at h1
   ·rename_i hk
    subst hk
    cases h1
    exact run_equalIn_int w' _ t _ k _ _ hu
   ·cases h1
  ·rename_i hu
   obtain⟨b',h1,rfl⟩:=leaf 1 (Option.some.inj hs).symm qaN
   cases x<;>cases y<;>simp only[r9]at h1<;>(first|(cases h1;done)|skip)
   cases h1
   exact run_equalIn_string w' _ t _ _ hu
  ·rename_i hu
   obtain⟨b',h1,rfl⟩:=leaf 2 (Option.some.inj hs).symm qaN
   cases x<;>cases y<;>simp only[r9]at h1<;>(first|(cases h1;done)|skip)
   cases h1
   exact run_equalIn_bool' w' _ t _ _ hu
  ·rename_i fs hu
   split at hs
   ·cases hs
   ·rename_i hst
    have ha:aK P t=some true:=by simp[aK,hu]
    rcases hx with⟨_,rfl⟩|⟨h1,_⟩
    rotate_left
    ·rw[ha]at h1;cases h1
    rcases hy with⟨_,rfl⟩|⟨h1,_⟩
    rotate_left
    ·rw[ha]at h1;cases h1
    have hf:P.fieldsOf t=fs:=by simp[Program.fieldsOf,hu]
    rw[run_equalIn_struct w' _ t _ _ (by rw[hf];exact hu) (by simpa using hst),hf]
    exact Mo (fun t s h=>ih d' t s h) (fun t s h=>EF h) _ _ _ hs X Y b Qm (Nat.zero_le _) (Nat.zero_le _) w'
  ·cases hs
theorem Ks {ds:List D} {X:List Value} (h:HK ds=some X):X.length=ds.length∧ ∀(k:Nat) (d:D),ds[k]?=some d→ ∃v,X[k]?=some v∧d= .lit v:=by
 induction ds generalizing X with
 |nil=>cases h;exact⟨rfl,fun k d hk=>by simp at hk⟩
 |cons d ds ih=>
  unfold HK at h
  split at h
  ·rename_i hd;cases hd
  ·rename_i v r hd
   obtain⟨rfl,rfl⟩:=List.cons.inj hd
   obtain⟨Z,hz,rfl⟩:=Option.map_eq_some_iff.1 h
   obtain⟨h1,h2⟩:=ih hz
   refine⟨by simp[h1],fun k d hk=>?_⟩
   cases k with
   |zero=>cases hk;exact⟨v,rfl,rfl⟩
   |succ k=>exact h2 k d qaZ
  ·cases h
theorem OV {P:Program} {t:TypeId} {s:List Nat} (he:eEq P t=some s) {X Y:List Value} {b:Bool} (hb:dY s X Y=some b) (w':World):
 (binOp .eql t (.agg X.toArray) (.agg Y.toArray)).run P w'= .ok (.bool b) w'∧(binOp .neq t (.agg X.toArray) (.agg Y.toArray)).run P w'= .ok (.bool (!b)) w'∧P.eqGuardType P.depth t=false:=by
 unfold eEq at he
 split at he
 ·cases he
 ·rename_i hg
  split at he
  ·rename_i fs hu
   have ha:aK P t=some true:=by simp[aK,hu]
   have h:=w7 9 9991 t s he X Y b hb _ _ (.inl ⟨ha,rfl⟩) (.inl ⟨ha,rfl⟩) w'
   refine⟨?_,?_,QJ⟩
   ·rw[run_eql_struct,h];rfl
   ·rw[run_neq_struct,h];rfl
  ·cases he
theorem zK {w:World} {K:Nat→Prop} {ds:List D} {X:List Value} {v:Value} (h:HK ds=some X) (hr:RdD w K (.agg ds) v):v= .agg X.toArray:=by
 obtain⟨h1,h2⟩:=Ks h
 cases hr with
 |agg _ vs g hn hg hd=>
  congr 1
  apply Array.ext'
  apply List.ext_getElem?
  intro k
  by_cases hk:k<ds.length
  ·obtain⟨u,h3,h4⟩:=h2 k _ (List.getElem?_eq_getElem hk)
   have h5:=hd k _ (List.getElem?_eq_getElem hk)
   rw[h4]at h5
   have h6:=hg k qD
   cases h5
   simp only[Array.getElem?_toList,h6,h3]
  ·rw[List.getElem?_eq_none qH,List.getElem?_eq_none qH]
theorem Kt (r:Rep C st ok h a w) (hE:fI w ok h a E) {op:BinOp} {t u:TypeId} {y z:Operand} (ho:o.op= .binOp op t y z u) (he:Jr C.P op t (E y) (E z)=some (x,p)) (hp:p):Yields C w ok h a o x:=by
 unfold Jr at he
 split at he
 ·rename_i k n k' m hy hz
  split at he
  ·rename_i q hq
   obtain⟨rfl,rfl⟩:=Prod.mk.inj (Option.some.inj he)
   have e1:=aX (hE _ _ hy)
   have e2:=aX (hE _ _ hz)
   refine bD _ fun w'=>?_
   have hb:=CZ (op:=op) (v:=q.1) (p:=q.2) hq hp k' t C.P w'
   simp only[execOp,ho,e1,e2,eqGuard,Sem.run_bind,Sem.run_pure]
   split<;>simp[hb]
  split at he
  ·rename_i hk
   subst hk
   cases hq:r8 op k n m with
   |none=>simp[hq]at he
   |some q=>
    rw[hq]at he
    obtain⟨rfl,rfl⟩:=Prod.mk.inj (Option.some.inj he)
    have e1:=aX (hE _ _ hy)
    have e2:=aX (hE _ _ hz)
    refine bD _ fun w'=>?_
    have hb:=CY (op:=op) (v:=q.1) (p:=q.2) hq hp t C.P w' (by rintro rfl;simp[r8]at hq) (by rintro rfl;simp[r8]at hq)
    simp only[execOp,ho,e1,e2,eqGuard,Sem.run_bind,Sem.run_pure]
    split<;>simp[hb]
  ·cases he
 ·rename_i n m hy hz
  cases hq:Jq op n m with
  |none=>simp[hq]at he
  |some q=>
   rw[hq]at he
   obtain⟨rfl,rfl⟩:=Prod.mk.inj (Option.some.inj he)
   have e1:=aX (hE _ _ hy)
   have e2:=aX (hE _ _ hz)
   refine bD _ fun w'=>?_
   have hb:=EE (op:=op) (v:=q.1) (p:=q.2) hq hp t C.P w'
   simp only[execOp,ho,e1,e2,eqGuard,Sem.run_bind,Sem.run_pure]
   split<;>simp[hb]
 ·rename_i n m hy hz
  split at he
  ·rename_i hb
   cases hq:CV op n m with
   |none=>simp[hq]at he
   |some q=>
    rw[hq]at he
    obtain⟨rfl,rfl⟩:=Prod.mk.inj (Option.some.inj he)
    have e1:=aX (hE _ _ hy)
    have e2:=aX (hE _ _ hz)
    refine bD _ fun w'=>?_
    have hb:=C0 (op:=op) (v:=q.1) (p:=q.2) hq hp t C.P hb w'
    simp only[execOp,ho,e1,e2,eqGuard,Sem.run_bind,Sem.run_pure]
    split<;>simp[hb]
  ·cases he
 ·rename_i hy hz
  split at he
  ·rename_i hpt
   have e1:=aX (hE _ _ hy)
   have e2:=aX (hE _ _ hz)
   have hb:=fun w'=>zI (P:=C.P) hpt none w'
   cases op<;>simp only[oQ]at he<;>(first|(cases he;done)|skip)<;>obtain⟨rfl,rfl⟩:=Prod.mk.inj (Option.some.inj he)
   all_goals
    refine bD _ fun w'=>?_
    simp only[execOp,ho,e1,e2,eqGuard,Sem.run_bind,Sem.run_pure]
    split<;>simp[(hb w').1,(hb w').2]
  ·cases he
 ·rename_i id off hy hz
  split at he
  ·rename_i hpt
   have e1:=hE _ _ hy
   have e2:=aX (hE _ _ hz)
   generalize hv:a.eval y=v at e1
   cases e1 with
   |bp _ _ b hb'=>
    have hb:=fun w'=>zI (P:=C.P) hpt (some ⟨b,off,none⟩) w'
    cases op<;>simp only[oQ]at he<;>(first|(cases he;done)|skip)<;>obtain⟨rfl,rfl⟩:=Prod.mk.inj (Option.some.inj he)
    all_goals
     refine bD _ fun w'=>?_
     simp only[execOp,ho,hv,e2,eqGuard,Sem.run_bind,Sem.run_pure]
     split<;>simp[(hb w').1,(hb w').2]
  ·cases he
 ·rename_i id off hy hz
  split at he
  ·rename_i hpt
   have e1:=aX (hE _ _ hy)
   have e2:=hE _ _ hz
   generalize hv:a.eval z=v at e2
   cases e2 with
   |bp _ _ b hb'=>
    have hb:=fun w'=>HL (P:=C.P) hpt (some ⟨b,off,none⟩) w'
    cases op<;>simp only[oQ]at he<;>(first|(cases he;done)|skip)<;>obtain⟨rfl,rfl⟩:=Prod.mk.inj (Option.some.inj he)
    all_goals
     refine bD _ fun w'=>?_
     simp only[execOp,ho,hv,e1,eqGuard,Sem.run_bind,Sem.run_pure]
     split<;>simp[(hb w').1,(hb w').2]
  ·cases he
 ·rename_i id off id' off' hy hz
  split at he
  ·rename_i hpt
   simp only[Bool.and_eq_true,beq_iff_eq]at hpt
   obtain⟨⟨hpt,rfl⟩,rfl⟩:=hpt
   have e1:=hE _ _ hy
   have e2:=hE _ _ hz
   generalize hv:a.eval y=v at e1
   generalize hu:a.eval z=u' at e2
   cases e1 with
   |bp _ _ b hb1=>cases e2 with
    |bp _ _ b2 hb2=>
     obtain rfl:b=b2:=Option.some.inj (hb1.symm.trans hb2)
     have hb:=fun w'=>C1 (P:=C.P) hpt ⟨b,off,none⟩ w'
     cases op<;>simp only[oQ]at he<;>(first|(cases he;done)|skip)<;>obtain⟨rfl,rfl⟩:=Prod.mk.inj (Option.some.inj he)
     all_goals
      refine bD _ fun w'=>?_
      simp only[execOp,ho,hv,hu,eqGuard,Sem.run_bind,Sem.run_pure]
      split<;>simp[(hb w').1,(hb w').2]
  ·cases he
 ·rename_i xs ys hy hz
  split at he
  ·rename_i s X Y hs hX hY
   split at he
   ·rename_i b hb
    have e1:=zK hX (by cases hE _ _ hy with|d _ _ hx=>exact hx)
    have e2:=zK hY (by cases hE _ _ hz with|d _ _ hx=>exact hx)
    have hr:=fun w'=>OV hs hb w'
    cases op<;>simp only[oQ]at he<;>(first|(cases he;done)|skip)<;>obtain⟨rfl,rfl⟩:=Prod.mk.inj (Option.some.inj he)
    all_goals
     refine bD _ fun w'=>?_
     simp[execOp,ho,e1,e2,run_eqGuard_agg w' _ t y z X.toArray Y.toArray (hr w').2.2,(hr w').1,(hr w').2.1]
   ·cases he
  ·cases he
 ·cases he
theorem Mp (r:Rep C st ok h a w) (hE:fI w ok h a E) {op:UnOp} {t:TypeId} {y:Operand} (ho:o.op= .unOp op t y) (he:OT op (E y)=some (x,p)) (hp:p):Yields C w ok h a o x:=by
 unfold OT at he
 split at he
 ·rename_i b hy
  have e1:=aX (hE _ _ hy)
  cases op<;>first|(cases he;done)|obtain⟨rfl,rfl⟩:=Prod.mk.inj (Option.some.inj he)
  refine bD _ fun w'=>?_
  simp[execOp,ho,e1,Op.unary]
 ·rename_i k n hy
  have e1:=aX (hE _ _ hy)
  cases op<;>first|(cases he;done)|obtain⟨rfl,rfl⟩:=Prod.mk.inj (Option.some.inj he)
  refine bD _ fun w'=>?_
  have hw:=mD hp
  simp[execOp,ho,e1,Op.unary,Op.intArith]at hw⊢
  exact hw
 ·cases he
theorem HM {R:Bool→Operand→Option V} (hR: ∀g,g=true→fI w ok h a (R g)) {c y z:Operand} {b:Bool} (ho:o.op= .pick c y z) (hc:R true c=some (.d (.lit (.bool b)))) (he:CW b (R (true&&b) y) (R (true&& !b) z)=some (x,p)):Yields C w ok h a o x:=by
 have e0:=aX (hR true rfl _ _ hc)
 have key: ∀y' z',R (true&&b) y=some y'→R (true&& !b) z=some z'→RdV w ok h (bif b then y' else z') (bif b then a.eval y else a.eval z):=by
  intro y' z' hy hz
  cases b
  ·exact hR _ rfl _ _ hz
  ·exact hR _ rfl _ _ hy
 have run: ∀w',(execOp a.eval o).run C.P w'= .ok (.value (bif b then a.eval y else a.eval z)) w':=by
  intro w'
  cases b<;>simp[execOp,ho,e0,asBool]
 unfold CW at he
 split at he
 ·rename_i u v hy hz
  have k:=key _ _ hy hz
  split at he
  ·obtain⟨rfl,rfl⟩:=Prod.mk.inj (Option.some.inj he)
   refine⟨_,?_,fun w' _=>run w'⟩
   cases b<;>exact k
  ·obtain⟨rfl,rfl⟩:=Prod.mk.inj (Option.some.inj he)
   exact⟨_,k,fun w' _=>run w'⟩
 ·cases he
theorem vI {P:Program} {t:TypeId} {f:Nat} {r:TypeId×Nat} (he:aU P t f=some r):
 ∃(fields:Array Field) (fl:Field),P.underlying t=some (.struct fields)∧fields[f]?=some fl∧fl.type=r.1∧fl.offset=r.2∧ ∃i,P.info? fl.type=some i∧i.size≠0:=by
 unfold aU at he
 split at he
 ·rename_i fields hu
  split at he
  ·rename_i fl hf
   split at he
   ·cases he
   ·rename_i n hne hi
    cases he
    obtain⟨i,h1,h2⟩:=Option.map_eq_some_iff.1 hi
    exact⟨fields,fl,hu,hf,rfl,rfl,i,h1,by intro h0;apply hne;rw[h2]at h0;rw[h0]⟩
   ·cases he
  ·cases he
 ·cases he
theorem oR {P:Program} {t:TypeId} {f:Nat} {r:TypeId×Nat} (he:aU P t f=some r) (b off:Nat) (w':World):
 (Instr.fieldAt t (.pointer (some ⟨b,off,none⟩)) f).run P w'= .ok (.pointer (some ⟨b,off+r.2,none⟩)) w':=by
 obtain⟨fields,fl,hu,hf,h1,h2,i,hi,hs⟩:=vI he
 have hadd:(⟨b,off,none⟩:Addr).add fl.offset=⟨b,off+fl.offset,none⟩:=by unfold Addr.add;split<;>simp_all
 rw[h2]at hadd
 simp[Instr.fieldAt,run_underlying hu,hf,Instr.sureAddr,fieldPlace,sizeOf,typeInfo,hi,hs,hadd,h2]
theorem yH (r:Rep C st ok h a w) (hE:fI w ok h a E) {t:TypeId} {f:Nat} {y:Operand} (ho:o.op= .fieldAddr t y f) (he:lD C.P t f (E y)=some (x,p)) (_hp:p):Yields C w ok h a o x:=by
 unfold lD at he
 split at he
 ·rename_i id off hy
  obtain⟨q,hq,hx⟩:=Option.map_eq_some_iff.1 he
  obtain⟨rfl,rfl⟩:=Prod.mk.inj hx
  have e1:=hE _ _ hy
  generalize hv:a.eval y=v at e1
  cases e1 with
  |bp _ _ b hb=>exact⟨_,.bp id (off+q.2) b hb,fun w' _=>by simp[execOp,ho,hv,oR hq]⟩
 ·rename_i id i off hy
  obtain⟨q,hq,hx⟩:=Option.map_eq_some_iff.1 he
  obtain⟨rfl,rfl⟩:=Prod.mk.inj hx
  have e1:=hE _ _ hy
  generalize hv:a.eval y=v at e1
  cases e1 with
  |el _ _ _ b hb=>
   refine⟨_,.el id i (off+q.2) b hb,fun w' _=>?_⟩
   simp only[execOp,ho,hv,Sem.run_bind,oR hq,Result.andThen_ok,Sem.run_pure,Nat.add_assoc]
 ·rename_i cs off hy
  obtain⟨q,hq,hx⟩:=Option.map_eq_some_iff.1 he
  obtain⟨rfl,rfl⟩:=Prod.mk.inj hx
  have e1:=hE _ _ hy
  generalize hv:a.eval y=v at e1
  cases e1 with
  |d _ _ hx=>cases hx with
   |ip _ _ b o g hb hg hd=>
    refine⟨_,.d _ _ (.ip cs (off+q.2) b o g hb hg hd),fun w' _=>?_⟩
    simp only[execOp,ho,hv,Sem.run_bind,oR hq,Result.andThen_ok,Sem.run_pure,Nat.add_assoc]
 ·cases he
theorem bF {P:Program} {t:TypeId} {r:TypeId×Nat} (he:bM P t=some r):P.underlying t=some (.slice r.1)∧ ∃i,P.info? r.1=some i∧i.size=r.2:=by
 unfold bM at he
 split at he
 ·rename_i e hu
  obtain⟨i,h1,h2⟩:=Option.map_eq_some_iff.1 he
  subst h2
  exact⟨hu,i,h1,rfl⟩
 ·cases he
theorem fE {P:Program} {t:TypeId} (he:aP P t=true):P.underlying t=some .string:=by
 unfold aP at he
 split at he<;>simp_all
theorem pX {P:Program} {t:TypeId} {k:IntKind} (he:nD P t=some k):P.underlying t=some (.int k):=by
 unfold nD at he
 split at he<;>simp_all
theorem addr_add (b off k:Nat):(⟨b,off,none⟩:Addr).add k=⟨b,off+k,none⟩:=by unfold Addr.add;split<;>simp_all
def Cells (w:World) (ok:Nat→Prop) (h:Nat→Hd) (b off:Nat) (cells:List V):Prop:=
 ∀k x,cells[k]?=some x→ ∃v,w.cell? ⟨b,off+k,none⟩=some v∧RdV w ok h x v
theorem fU: ∀{cs:List V} {ds:List D},vF cs=some ds→cs=ds.map V.d
 |[],ds,h=>by cases h;rfl
 | .d x::r,ds,h=>by
   simp only[vF]at h
   obtain⟨ds',h1,h2⟩:=Option.map_eq_some_iff.1 h
   subst h2
   rw[fU h1]
   rfl
 | .bp .. ::_,_,h| .el .. ::_,_,h| .os .. ::_,_,h| .ot .. ::_,_,h| .mp .. ::_,_,h| .fS .. ::_,_,h| .gG .. ::_,_,h| .eR .. ::_,_,h| .any::_,_,h=>by cases h
theorem lF {cs:List V} {vs:Array Value} {g:Nat→Value} (hn:vs.size=cs.length) (hg: ∀i,i<cs.length→vs[i]?=some (g i))
 (hx: ∀i x,cs[i]?=some x→RdV w ok h x (g i)):RdV w ok h (w4 cs) (.agg vs):=by
 unfold w4
 split
 ·rename_i ds hd
  have e:=fU hd
  subst e
  refine .d _ _ (.agg ds vs g QK QJ fun i d hi=>?_)
  have:=hx i (.d d) (by simp[hi])
  cases this with|d _ _ h=>exact h
 ·exact .fS cs vs g hn hg hx
theorem jL {P:Program} {t:TypeId} {b off:Nat} {cells:List V} (hc:Cells w ok h b off cells) (he:w6 P t cells=some x):
 ∃v,RdV w ok h x v∧ ∀w',(∀o,w'.cell? ⟨b,o,none⟩=w.cell? ⟨b,o,none⟩)→(Instr.loadAt t (.pointer (some ⟨b,off,none⟩))).run P w'= .ok v w':=by
 unfold w6 at he
 split at he
 ·rename_i n ha hn
  split at he
  ·rename_i hle
   cases he
   have hex: ∀k,k<n→ ∃v,w.cell? ⟨b,off+k,none⟩=some v∧ ∀x,cells[k]?=some x→RdV w ok h x v:=fun k hk=>by
    have hkl:k<cells.length:=by omega
    obtain⟨v,h1,h2⟩:=hc k cells[k] (List.getElem?_eq_getElem hkl)
    exact⟨v,h1,fun x hx=>by rw[List.getElem?_eq_getElem hkl]at hx;cases hx;exact h2⟩
   let g:Nat→Value:=fun k=>(w.cell? ⟨b,off+k,none⟩).getD undef
   have hg: ∀k,k<n→w.cell? ⟨b,off+k,none⟩=some (g k):=fun k hk=>by
    obtain⟨v,h1,_⟩:=hex k hk
    simp[g,h1]
   refine⟨.agg ((List.range n).map g).toArray,lF (g:=g) qH (fun i hi=>?_) (fun i x hi=>?_),fun w' hw'=>?_⟩
   ·have hi':i<n:=by simp at hi;omega
    simp[hi']
   ·have hin:i<n:=by
     have:=(List.getElem?_eq_some_iff.1 hi).1
     simp at this;omega
    obtain⟨v,h1,h2⟩:=hex i hin
    have hv:g i=v:=by simp[g,h1]
    rw[hv]
    exact h2 x (by rw[List.getElem?_take]at hi;simpa[hin]using hi)
   ·have hl:=run_loadCells (P:=P) w' ⟨b,off,none⟩ n g (fun j hj=>by rw[addr_add,hw'];exact hg j hj)
    simp[Instr.loadAt,Instr.sureAddr,loadVar,dS ha,run_sizeOf hn,hl]
  ·cases he
 ·rename_i o ha
  obtain⟨v,h1,h2⟩:=hc 0 x (by cases cells<;>simp_all)
  refine⟨v,h2,fun w' hw'=>?_⟩
  have hcell:=(hw' (off+0)).trans h1
  simp only[Nat.add_zero]at hcell
  simp[Instr.loadAt,Instr.sureAddr,loadVar,dS ha,hcell]
 ·cases he
theorem HO (r:Rep C st ok h a w) (hE:fI w ok h a E) {t:TypeId} {y:Operand} (ho:o.op= .load t y) (he:CX C.P st.aD t (E y)=some (x,p)) (hp:p):Yields C w ok h a o x:=by
 unfold CX at he
 split at he
 ·rename_i id off hy
  split at he
  ·rename_i ty cells hl
   obtain⟨z,hz,hx⟩:=Option.map_eq_some_iff.1 he
   obtain⟨rfl,rfl⟩:=Prod.mk.inj hx
   have e1:=hE _ _ hy
   generalize hv:a.eval y=v at e1
   cases e1 with
   |bp _ _ b hb=>
    obtain⟨b',cs,h1,h2,h3,h4⟩:=r.mem.obj id _ hl
    obtain rfl:b'=b:=by rw[h1]at hb;exact Option.some.inj hb
    obtain⟨v,hr,hrun⟩:=jL (P:=C.P) (w:=w) (ok:=ok) (h:=h) (b:=b') (off:=off) (cells:=cells.drop off) (fun k x hk=>by
     rw[List.getElem?_drop]at hk
     obtain⟨v,h5,h6⟩:=h4 _ _ hk
     exact⟨v,by simpa[World.cell?,h2]using h5,h6⟩) hz
    refine⟨v,hr,fun w' hw'=>?_⟩
    have hlt:=(r.mem.blk id _ b' hl h1).1
    simp[execOp,ho,hv,hrun w' (fun o=>fT (hw' b' hlt))]
  ·cases he
 ·rename_i id i off hy
  split at he
  ·rename_i e sz grow es hl
   obtain⟨z,hz,hx⟩:=Option.map_eq_some_iff.1 he
   obtain⟨rfl,rfl⟩:=Prod.mk.inj hx
   have e1:=hE _ _ hy
   generalize hv:a.eval y=v at e1
   cases e1 with
   |el _ _ _ b hb=>
    obtain⟨hsz,_,h5⟩:=r.mem.obj id _ hl
    rcases h5 with⟨h6,_⟩|⟨b',cur,fz,h1,h2,h3,_,h4,h5,h6⟩
    ·rw[h6]at hb;cases hb
    obtain rfl:b'=b:=by rw[h1]at hb;exact Option.some.inj hb
    have hil:es[i]?=some (es.getD i grow.2):=by simp[List.getD,List.getElem?_eq_getElem hp]
    obtain⟨hlen,hcell⟩:=h6 i _ hil
    obtain⟨v,hr,hrun⟩:=jL (P:=C.P) (w:=w) (ok:=ok) (h:=h) (b:=b') (off:=i*sz+off) (cells:=((es.getD i grow.2).drop off).map V.d) (fun k x hk=>by
     rw[List.getElem?_map,List.getElem?_drop]at hk
     obtain⟨d,hd,hdx⟩:=Option.map_eq_some_iff.1 hk
     subst hdx
     obtain⟨v,h7,h8⟩:=hcell _ _ hd
     refine⟨v,?_,.d _ _ h8⟩
     rw[Nat.add_assoc]
     simpa[World.cell?,h2]using h7) hz
    refine⟨v,hr,fun w' hw'=>?_⟩
    have hlt:=(r.mem.blk id _ b' hl h1).1
    simp[execOp,ho,hv,hsz,hrun w' (fun o=>fT (hw' b' hlt))]
  ·cases he
 ·rename_i cs off hy
  obtain⟨z,hz,hx⟩:=Option.map_eq_some_iff.1 he
  obtain⟨rfl,rfl⟩:=Prod.mk.inj hx
  have e1:=hE _ _ hy
  generalize hv:a.eval y=v at e1
  cases e1 with
  |d _ _ hx=>cases hx with
   |ip _ _ b o' g hb hg hd=>
    obtain⟨v,hr,hrun⟩:=jL (P:=C.P) (w:=w) (ok:=ok) (h:=h) (b:=b) (off:=o'+off) (cells:=(cs.drop off).map V.d) (fun k x hk=>by
     rw[List.getElem?_map,List.getElem?_drop]at hk
     obtain⟨d,hd',hdx⟩:=Option.map_eq_some_iff.1 hk
     subst hdx
     have hlt:=(List.getElem?_eq_some_iff.1 hd').1
     exact⟨_,by rw[Nat.add_assoc];exact hg _ hlt,.d _ _ (hd _ _ hd')⟩) hz
    refine⟨v,hr,fun w' hw'=>?_⟩
    simp[execOp,ho,hv,hrun w' (fun o=>fT (hw' b (r.mem.okb b hb).1))]
 ·cases he
theorem EG (r:Rep C st ok h a w) (hE:fI w ok h a E) {t:TypeId} {f:Nat} {y:Operand} (ho:o.op= .field t y f) (he:yR C.P t f (E y)=some (x,p)) (_hp:p):Yields C w ok h a o x:=by
 unfold yR at he
 split at he
 ·rename_i cs hy
  have e1:=hE _ _ hy
  generalize hv:a.eval y=v at e1
  cases e1 with
  |d _ _ hx=>cases hx with
   |agg _ vs g hn hg hd=>
    split at he
    ·rename_i ft off hf
     obtain⟨fields,fl,hu,hfl,h1,h2,i,hi,hs⟩:=vI hf
     simp only at h1 h2
     have hrunf: ∀w',(Instr.field t (.agg vs) f).run C.P w'=(part ft vs off).run C.P w':=fun w'=>by
      simp[Instr.field,run_underlying hu,hfl,asAgg,h1,h2]
     split at he
     ·rename_i n ha hn'
      split at he
      ·rename_i hle
       obtain⟨rfl,rfl⟩:=Prod.mk.inj (Option.some.inj he)
       refine⟨.agg (vs.extract off (off+n)),.d _ _ (.agg _ _ (fun k=>g (off+k)) qH (fun k hk=>?_) (fun k d hk=>?_)),fun w' _=>?_⟩
       ·simp at hk
        have:=hg (off+k) qD
        rw[Array.getElem?_extract]
        simp[this]
        omega
       ·rw[List.getElem?_take,List.getElem?_drop]at hk
        split at hk
        ·exact hd _ _ hk
        ·cases hk
       ·simp[execOp,ho,hv,hrunf,part,dS ha,run_sizeOf hn']
      ·cases he
     ·rename_i ha
      obtain⟨d,hd',hx⟩:=Option.map_eq_some_iff.1 he
      obtain⟨rfl,rfl⟩:=Prod.mk.inj hx
      have hlt:=(List.getElem?_eq_some_iff.1 hd').1
      refine⟨g off,.d _ _ (hd _ _ hd'),fun w' _=>?_⟩
      simp[execOp,ho,hv,hrunf,part,dS ha,hg off hlt]
     ·cases he
    ·cases he
 ·rename_i cs hy
  have e1:=hE _ _ hy
  generalize hv:a.eval y=v at e1
  cases e1 with
  |fS _ vs g hn hg hd=>
   split at he
   ·rename_i ft off hf
    obtain⟨fields,fl,hu,hfl,h1,h2,i,hi,hs⟩:=vI hf
    simp only at h1 h2
    have hrunf: ∀w',(Instr.field t (.agg vs) f).run C.P w'=(part ft vs off).run C.P w':=fun w'=>by
     simp[Instr.field,run_underlying hu,hfl,asAgg,h1,h2]
    split at he
    ·rename_i n ha hn'
     split at he
     ·rename_i hle
      obtain⟨rfl,rfl⟩:=Prod.mk.inj (Option.some.inj he)
      refine⟨.agg (vs.extract off (off+n)),lF (g:=fun k=>g (off+k)) qH (fun k hk=>?_) (fun k d hk=>?_),fun w' _=>?_⟩
      ·simp at hk
       have:=hg (off+k) qD
       rw[Array.getElem?_extract]
       simp[this]
       omega
      ·rw[List.getElem?_take,List.getElem?_drop]at hk
       split at hk
       ·exact hd _ _ hk
       ·cases hk
      ·simp[execOp,ho,hv,hrunf,part,dS ha,run_sizeOf hn']
     ·cases he
    ·rename_i ha
     obtain⟨d,hd',hx⟩:=Option.map_eq_some_iff.1 he
     obtain⟨rfl,rfl⟩:=Prod.mk.inj hx
     have hlt:=(List.getElem?_eq_some_iff.1 hd').1
     refine⟨g off,hd _ _ hd',fun w' _=>?_⟩
     simp[execOp,ho,hv,hrunf,part,dS ha,hg off hlt]
    ·cases he
   ·cases he
 ·cases he
theorem w9 {P:Program} {t:TypeId} {r:TypeId×Nat} (he:bM P t=some r) (A:Addr) (n cap:Nat) (k:IntKind) (i:Int) (h0:0≤i) (h1:i<n) (w':World):
 (Instr.indexAt t (.slice (some A) n cap) (.int k i)).run P w'= .ok (.pointer (some (A.add (i.toNat*r.2)))) w':=by
 obtain⟨hu,j,hj,hs⟩:=bF he
 simp[Instr.indexAt,asIntOf,run_underlying hu,h0,h1,sizeOf,typeInfo,hj,hs]
theorem tE {P:Program} {t:TypeId} {r:TypeId×Nat×Nat} (he:vE P t=some r) (A:Addr) (k:IntKind) (i:Int) (h0:0≤i) (h1:i<r.2.1) (w':World):
 (Instr.indexAt t (.pointer (some A)) (.int k i)).run P w'= .ok (.pointer (some (A.add (i.toNat*r.2.2)))) w':=by
 unfold vE at he
 split at he
 ·rename_i n e hu
  obtain⟨j,hj,rfl⟩:=Option.map_eq_some_iff.1 he
  simp only at h1
  simp[Instr.indexAt,asIntOf,run_underlying hu,Instr.sureAddr,sizeOf,typeInfo,hj,h0,h1]
 ·cases he
theorem yI (r:Rep C st ok h a w) (hE:fI w ok h a E) {t:TypeId} {y z:Operand} (ho:o.op= .indexAddr t y z) (he:lE C.P st.aD t (E y) (E z)=some (x,p)) (hp:p):Yields C w ok h a o x:=by
 unfold lE at he
 split at he
 ·rename_i n f k i hy hz
  obtain⟨q,hq,hx⟩:=Option.map_eq_some_iff.1 he
  obtain⟨rfl,rfl⟩:=Prod.mk.inj hx
  obtain⟨h0,h1,h2⟩:=hp
  have e1:=hE _ _ hy
  have e2:=aX (hE _ _ hz)
  generalize hv:a.eval y=v at e1
  cases e1 with
  |d _ _ hx=>cases hx with
   |sl _ _ A cap size b off g hc hm hA hl hg hd=>
    obtain⟨rfl,hok⟩:=hA qD
    have hi:i.toNat<n:=by omega
    have hsz:size=q.2:=by rw[←hl _ hi];exact h2
    refine⟨.pointer (some ⟨b,(off+i.toNat*size)+0,none⟩),.d _ _ (.ip (f i.toNat) 0 b (off+i.toNat*size) (g i.toNat) hok (fun j hj=>?_) (fun j d hj=>hd _ _ _ hi hj)),fun w' _=>?_⟩
    ·exact hg _ _ hi (by rw[hl _ hi]at hj;exact hj)
    ·simp[execOp,ho,hv,e2,w9 hq _ _ _ _ _ h0 h1,addr_add,hsz]
 ·rename_i id n k i hy hz
  split at he
  ·rename_i e sz grow es q hl hq
   obtain⟨rfl,rfl⟩:=Prod.mk.inj (Option.some.inj he)
   obtain⟨h0,h1,h2,h3⟩:=hp
   have e1:=hE _ _ hy
   have e2:=aX (hE _ _ hz)
   generalize hv:a.eval y=v at e1
   cases e1 with
   |os _ _ hcap=>
    obtain⟨hsz,_,h5⟩:=r.mem.obj id _ hl
    rcases h5 with⟨h6,h7,_⟩|⟨b',cur,fz,h6,_⟩
    ·subst h7
     simp at h2;omega
    ·refine⟨_,.el id i.toNat 0 b' h6,fun w' _=>?_⟩
     simp[execOp,ho,hv,e2,Hd.addr,h6,w9 hq _ _ _ _ _ h0 h1,addr_add,hsz,h3]
  ·cases he
 ·rename_i id off k i hy hz
  obtain⟨q,hq,hx⟩:=Option.map_eq_some_iff.1 he
  obtain⟨rfl,rfl⟩:=Prod.mk.inj hx
  obtain⟨h0,h1⟩:=hp
  have e1:=hE _ _ hy
  have e2:=aX (hE _ _ hz)
  generalize hv:a.eval y=v at e1
  cases e1 with
  |bp _ _ b hb=>exact⟨_,.bp id _ b hb,fun w' _=>by simp[execOp,ho,hv,e2,tE hq _ _ _ h0 h1,addr_add]⟩
 ·rename_i cs off k i hy hz
  obtain⟨q,hq,hx⟩:=Option.map_eq_some_iff.1 he
  obtain⟨rfl,rfl⟩:=Prod.mk.inj hx
  obtain⟨h0,h1⟩:=hp
  have e1:=hE _ _ hy
  have e2:=aX (hE _ _ hz)
  generalize hv:a.eval y=v at e1
  cases e1 with
  |d _ _ hx=>cases hx with
   |ip _ _ b o g hb hg hd=>
    refine⟨_,.d _ _ (.ip cs (off+i.toNat*q.2.2) b o g hb hg hd),fun w' _=>?_⟩
    simp[execOp,ho,hv,e2,tE hq _ _ _ h0 h1,addr_add,Nat.add_assoc]
 ·cases he
theorem EH (r:Rep C st ok h a w) (hE:fI w ok h a E) {t:TypeId} {y z:Operand} (ho:o.op= .index t y z) (he:yS C.P t (E y) (E z)=some (x,p)) (hp:p):Yields C w ok h a o x:=by
 unfold yS at he
 split at he
 ·rename_i s k i hy hz
  split at he
  ·rename_i hs
   obtain⟨rfl,rfl⟩:=Prod.mk.inj (Option.some.inj he)
   have e1:=aX (hE _ _ hy)
   have e2:=aX (hE _ _ hz)
   refine bD _ fun w'=>?_
   obtain⟨h0,h1⟩:=hp
   have hlt:i.toNat<s.size:=by omega
   have hg:s[i.toNat]?=some s[i.toNat]:=getElem?_pos s i.toNat hlt
   have hb:zG s i.toNat=s[i.toNat]:=by
    have hl:i.toNat<s.data.toList.length:=by simpa using hlt
    simp only[zG,List.getD,List.getElem?_eq_getElem hl]
    rfl
   simp[execOp,ho,e1,e2,Instr.index,asIntOf,run_underlying (fE hs),h0,hg,hb]
  ·cases he
 ·cases he
theorem RdD.sub {n l m:Nat} {f:Nat→List D} {A:Option Addr} {cap size:Nat} (hx:RdD w ok (.sl n f) (.slice A n cap)) (hl:l≤m) (hm:m≤n) (hsz: ∀i,i<n→(f i).length=size):
 RdD w ok (.sl (m-l) fun i=>f (l+i)) (.slice (if cap=l then A else A.map (·.add (l*size))) (m-l) (cap-l)):=by
 cases hx with
 |sl _ _ _ _ size' b off g hc hcm hA hl' hg hd=>
  have e:n=0∨size'=size:=by
   rcases Nat.eq_zero_or_pos n with h0|h0
   ·exact .inl h0
   ·exact .inr (by rw[←hl' 0 h0,←hsz 0 h0])
  refine .sl (m-l) _ _ (cap-l) size b (off+l*size) (fun i k=>g (l+i) k) qD qD (fun h0=>?_) (fun i hi=>?_) (fun i k hi hk=>?_) (fun i k d hi hk=>?_)
  ·obtain⟨rfl,hok⟩:=hA qD
   rw[if_neg qD]
   exact⟨by simp[addr_add],hok⟩
  ·exact hsz _ qD
  ·rcases e with e|e
   ·omega
   ·subst e
    have:=hg (l+i) k qD hk
    rw[Nat.add_mul,←Nat.add_assoc]at this
    exact this
  ·exact hd (l+i) k d qD hk
theorem RdD.WA {n l h m:Nat} {f:Nat→List D} {A:Option Addr} {cap size:Nat} (hx:RdD w ok (.sl n f) (.slice A n cap)) (hl:l≤h) (hh:h≤m) (hm:m≤n) (hsz: ∀i,i<n→(f i).length=size):
 RdD w ok (.sl (h-l) fun i=>f (l+i)) (.slice (if m=l then A else A.map (·.add (l*size))) (h-l) (m-l)):=by
 have h1:=hx.sub (l:=l) (m:=h) hl qD hsz
 cases hx with
 |sl _ _ _ _ size' b off g hc hcm hA hl' hg hd=>
  cases h1 with
  |sl _ _ _ _ size2 b2 off2 g2 hc2 hcm2 hA2 hl2 hg2 hd2=>
   refine .sl (h-l) _ _ (m-l) size2 b2 off2 g2 qD qD (fun h0=>?_) hl2 hg2 hd2
   have:=hA2 h0
   rw[if_neg qD]at this⊢
   exact this
theorem oS {dflt i:Int} (he:bnd dflt none=some i):i=dflt:=by cases he;rfl
theorem oT {dflt i:Int} {y:Option V} (he:bnd dflt (some y)=some i): ∃k,y=some (.d (.lit (.int k i))):=by
 match y,he with
 |some (.d (.lit (.int k j))),he=>cases he;exact⟨k,rfl⟩
theorem fV {P:Program} {k:IntKind} {i:Int} {y:Nat} {code:BoundsCode} (h0:0≤i) (h1:i≤y) (w':World):(Instr.sliceBound (.int k i) y code).run P w'= .ok i.toNat w':=by
 simp[Instr.sliceBound,asIntOf,h0,h1]
theorem oU (hE:fI w ok h a E) {P:Program} {isS:Bool} {n cap:Nat} {lo hi:Option Operand} {l m:Int} (hl:bnd 0 (lo.map E)=some l) (hh:bnd n (hi.map E)=some m)
 (h0:0≤l) (h1:l≤m) (h2:m≤cap) (w':World):(Instr.sliceBounds isS n cap (lo.map a.eval) (hi.map a.eval) none).run P w'= .ok (l.toNat,m.toNat,cap) w':=by
 cases hi with
 |none=>
  obtain rfl:=oS hh
  cases lo with
  |none=>obtain rfl:=oS hl;simp[Instr.sliceBounds]
  |some x=>
   obtain⟨k,hk⟩:=oT hl
   have e:=aX (hE _ _ hk)
   have hb:=fV (P:=P) (k:=k) (i:=l) (y:=n) (code:= .sliceB) h0 h1 w'
   simp[Instr.sliceBounds,e,hb]
 |some z=>
  obtain⟨k',hk'⟩:=oT hh
  have e':=aX (hE _ _ hk')
  have hb':=fun code=>fV (P:=P) (k:=k') (i:=m) (y:=cap) (code:=code) qD qD w'
  have hm:(m.toNat:Int)=m:=by omega
  cases lo with
  |none=>obtain rfl:=oS hl;simp[Instr.sliceBounds,e',hb']
  |some x=>
   obtain⟨k,hk⟩:=oT hl
   have e:=aX (hE _ _ hk)
   have hb:=fV (P:=P) (k:=k) (i:=l) (y:=m.toNat) (code:= .sliceB) h0 qD w'
   simp[Instr.sliceBounds,e,e',hb,hb']
theorem sA (hE:fI w ok h a E) {P:Program} {isS:Bool} {n cap:Nat} {lo hi:Option Operand} {l m:Int} (hl:bnd 0 (lo.map E)=some l) (hh:bnd n (hi.map E)=some m)
 (h0:0≤l) (h1:l≤m) (h2:m≤n) (hc:n≤cap) (w':World):(Instr.sliceBounds isS n cap (lo.map a.eval) (hi.map a.eval) none).run P w'= .ok (l.toNat,m.toNat,cap) w':=oU hE hl hh h0 h1 qD w'
theorem EI (r:Rep C st ok h a w) (hE:fI w ok h a E) {t:TypeId} {y:Operand} {lo hi:Option Operand} (ho:o.op= .slice t y lo hi none) (he:yT C.P st.aD t (lo.map E) (hi.map E) (E y)=some (x,p)) (hp:p):Yields C w ok h a o x:=by
 unfold yT at he
 split at he
 ·rename_i s hy
  split at he
  ·rename_i l m hs hl hh
   obtain⟨rfl,rfl⟩:=Prod.mk.inj (Option.some.inj he)
   obtain⟨h0,h1,h2⟩:=hp
   have e1:=aX (hE _ _ hy)
   refine bD _ fun w'=>?_
   have hb:=sA (P:=C.P) hE (isS:=false) hl hh h0 h1 h2 (Nat.le_refl _) w'
   simp[execOp,ho,e1,Instr.sliceAt,run_underlying (fE hs),Instr.slice,hb]
  ·cases he
 ·rename_i n f hy
  split at he
  ·rename_i q l m hq hl hh
   obtain⟨rfl,rfl⟩:=Prod.mk.inj (Option.some.inj he)
   obtain⟨h0,h1,h2,h3⟩:=hp
   have e1:=hE _ _ hy
   generalize hv:a.eval y=v at e1
   cases e1 with
   |d _ _ hx=>
    have hx':=hx
    cases hx with
    |sl _ _ A cap size b off g hc hm hA hl' hg hd=>
     obtain⟨hu,j,hj,hs⟩:=bF hq
     have hb:=fun w'=>sA (P:=C.P) hE (isS:=true) hl hh h0 h1 h2 hc w'
     refine⟨_,.d _ _ (hx'.sub (l:=l.toNat) (m:=m.toNat) (size:=q.2) qD qD h3),fun w' _=>?_⟩
     simp[execOp,ho,hv,Instr.sliceAt,run_underlying hu,Instr.slice,hb,sizeOf,typeInfo,hj,hs]
  ·cases he
 ·rename_i id n hy
  split at he
  ·rename_i e sz grow es q m hlk hq hl hh
   obtain⟨rfl,rfl⟩:=Prod.mk.inj (Option.some.inj he)
   obtain⟨h0,h1,h2⟩:=hp
   have e1:=hE _ _ hy
   generalize hv:a.eval y=v at e1
   cases e1 with
   |os _ _ hcap=>
    obtain⟨hu,j,hj,hs⟩:=bF hq
    have hlo:lo=none:=by cases lo<;>simp_all
    subst hlo
    have hb:=fun w'=>sA (P:=C.P) hE (isS:=true) (lo:=none) (l:=0) rfl hh qD h0 h1 hcap w'
    refine⟨_,.os id m.toNat qD,fun w' _=>?_⟩
    simp only[Option.map_none]at hb
    simp[execOp,ho,hv,Instr.sliceAt,run_underlying hu,Instr.slice,hb,sizeOf,typeInfo,hj,hs]
    intro hc0
    cases hA:(h id).addr with
    |none=>rfl
    |some A=>simp[Hd.addr]at hA;obtain⟨b,_,rfl⟩:=hA;simp[addr_add]
  ·rename_i e sz grow es q k l m hlk hq hl hh
   split at he
   ·rename_i hszq
    obtain⟨rfl,rfl⟩:=Prod.mk.inj (Option.some.inj he)
    obtain⟨h0,h1,h2'⟩:=hp
    have e1:=hE _ _ hy
    generalize hv:a.eval y=v at e1
    cases e1 with
    |os _ _ hcap=>
     obtain⟨hu,j,hj,hs⟩:=bF hq
     have hl':bnd 0 (lo.map E)=some l:=by rw[hl];rfl
     have h2:m≤((h id).cap:Int):=by
      rcases h2' with h3|h3
      ·omega
      ·obtain⟨_,_,h5⟩:=r.mem.obj id _ hlk
       rcases h5 with⟨_,h7,_⟩|⟨_,_,_,_,_,_,_,h7,_⟩
       ·subst h7;simp at h3;omega
       ·omega
     have hb:=fun w'=>oU (P:=C.P) hE (isS:=true) hl' hh h0 h1 h2 w'
     have hzz:=(r.mem.obj id _ hlk).1
     refine⟨_,.ot id l.toNat (m.toNat-l.toNat) qD,fun w' _=>?_⟩
     simp[execOp,ho,hv,Instr.sliceAt,run_underlying hu,Instr.slice,hb,sizeOf,typeInfo,hj,hs]
     unfold Hd.sub
     rw[hzz,hszq]
     split
     ·rfl
     ·cases hA:(h id).blk with
      |none=>simp[Hd.addr,hA]
      |some b=>simp[Hd.addr,hA,addr_add]
   ·cases he
  ·cases he
 ·rename_i hy
  split at he
  ·rename_i q m hq hl hh
   obtain⟨rfl,rfl⟩:=Prod.mk.inj (Option.some.inj he)
   have h0:m=0:=hp
   have e1:=aX (hE _ _ hy)
   have hlo:lo=none:=by cases lo<;>simp_all
   subst hlo
   obtain⟨hu,j,hj,hs⟩:=bF hq
   have hb:=fun w'=>oU (P:=C.P) hE (isS:=true) (n:=0) (cap:=0) (lo:=none) (l:=0) rfl hh qD qD qD w'
   refine bD _ fun w'=>?_
   simp only[Option.map_none]at hb
   simp[execOp,ho,e1,Instr.sliceAt,run_underlying hu,Instr.slice,hb,sizeOf,typeInfo,hj,hs,h0]
  ·cases he
 ·cases he
theorem C2 (r:Rep C st ok h a w) (hE:fI w ok h a E) {t:TypeId} {y mo:Operand} {lo hi:Option Operand} (ho:o.op= .slice t y lo hi (some mo)) (he:tC C.P st.aD t (lo.map E) (hi.map E) (E mo) (E y)=some (x,p)) (hp:p):Yields C w ok h a o x:=by
 unfold tC at he
 split at he
 ·rename_i id n hy
  split at he
  ·rename_i e sz gr es q l kh hh km hm hlk hq hl hhi hmx
   obtain⟨rfl,rfl⟩:=Prod.mk.inj (Option.some.inj he)
   obtain⟨h0,h1,h2,h3⟩:=hp
   have e1:=hE _ _ hy
   generalize hv:a.eval y=v at e1
   cases e1 with
   |os _ _ hcap=>
    obtain⟨hu,j,hj,hs⟩:=bF hq
    have em:=aX (hE _ _ hmx)
    cases hi with
    |none=>cases hhi
    |some z=>
     have hz:E z=some (.d (.lit (.int kh hh))):=Option.some.inj hhi
     have ez:=aX (hE _ _ hz)
     have bm:=fun w'=>fV (P:=C.P) (k:=km) (i:=hm) (y:=(h id).cap) (code:= .slice3Acap) qD qD w'
     have hmn:((hm.toNat:Nat):Int)=hm:=by omega
     have hhn:((hh.toNat:Nat):Int)=hh:=by omega
     have bh:=fun w'=>fV (P:=C.P) (k:=kh) (i:=hh) (y:=hm.toNat) (code:= .slice3B) qD qD w'
     cases lo with
     |none=>
      obtain rfl:=oS hl
      refine⟨.slice (if hm.toNat=0 then(h id).addr else(h id).addr.map (·.add (0*j.size))) (hh.toNat-0) (hm.toNat-0),.any _,fun w' _=>?_⟩
      simp[execOp,ho,hv,em,ez,Instr.sliceAt,run_underlying hu,Instr.slice,Instr.sliceBounds,bm w',bh w',sizeOf,typeInfo,hj,hs]
     |some xo=>
      obtain⟨kl,hk⟩:=oT hl
      have el:=aX (hE _ _ hk)
      have bl:=fun w'=>fV (P:=C.P) (k:=kl) (i:=l) (y:=hh.toNat) (code:= .slice3C) h0 qD w'
      refine⟨.slice (if hm.toNat=l.toNat then(h id).addr else(h id).addr.map (·.add (l.toNat*j.size))) (hh.toNat-l.toNat) (hm.toNat-l.toNat),.any _,fun w' _=>?_⟩
      simp[execOp,ho,hv,em,ez,el,Instr.sliceAt,run_underlying hu,Instr.slice,Instr.sliceBounds,bm w',bh w',bl w',sizeOf,typeInfo,hj,hs]
  ·cases he
 ·rename_i n f hy
  split at he
  ·rename_i q l kh hh km hm hq hl hhi hmx
   obtain⟨rfl,rfl⟩:=Prod.mk.inj (Option.some.inj he)
   obtain⟨h0,h1,h2,h3,h4⟩:=hp
   have e1:=hE _ _ hy
   generalize hv:a.eval y=v at e1
   cases e1 with
   |d _ _ hx=>
    have hx':=hx
    cases hx with
    |sl _ _ A cap size b off g hc hcm hA hl' hg hd=>
     obtain⟨hu,j,hj,hs⟩:=bF hq
     have em:=aX (hE _ _ hmx)
     cases hi with
     |none=>cases hhi
     |some z=>
      have hz:E z=some (.d (.lit (.int kh hh))):=Option.some.inj hhi
      have ez:=aX (hE _ _ hz)
      have hs3:=hx'.WA (l:=l.toNat) (h:=hh.toNat) (m:=hm.toNat) (size:=q.2) qD qD qD h4
      have bm:=fun w'=>fV (P:=C.P) (k:=km) (i:=hm) (y:=cap) (code:= .slice3Acap) qD qD w'
      have hmn:((hm.toNat:Nat):Int)=hm:=by omega
      have hhn:((hh.toNat:Nat):Int)=hh:=by omega
      have bh:=fun w'=>fV (P:=C.P) (k:=kh) (i:=hh) (y:=hm.toNat) (code:= .slice3B) qD qD w'
      cases lo with
      |none=>
       obtain rfl:=oS hl
       refine⟨_,.d _ _ hs3,fun w' _=>?_⟩
       simp[execOp,ho,hv,em,ez,Instr.sliceAt,run_underlying hu,Instr.slice,Instr.sliceBounds,bm w',bh w',sizeOf,typeInfo,hj,hs]
      |some xo=>
       obtain⟨kl,hk⟩:=oT hl
       have el:=aX (hE _ _ hk)
       have bl:=fun w'=>fV (P:=C.P) (k:=kl) (i:=l) (y:=hh.toNat) (code:= .slice3C) h0 qD w'
       refine⟨_,.d _ _ hs3,fun w' _=>?_⟩
       simp[execOp,ho,hv,em,ez,el,Instr.sliceAt,run_underlying hu,Instr.slice,Instr.sliceBounds,bm w',bh w',bl w',sizeOf,typeInfo,hj,hs]
  ·cases he
 ·cases he
def nE (w:World) (ok:Nat→Prop) (kd:Nat) (L:List (Key×D)) (l:List MapEntry):Prop:=
 l.length=L.length∧ ∀(i:Nat) (k:Key) (d:D),L[i]?=some (k,d)→k.kd=kd∧ ∃v b,l[i]?=some ⟨k.val,v,b⟩∧RdD w ok d v
theorem nE.tail {w:World} {ok:Nat→Prop} {kd:Nat} {p:Key×D} {L:List (Key×D)} {e:MapEntry} {l:List MapEntry} (h:nE w ok kd (p::L) (e::l)):nE w ok kd L l:=
 ⟨by have:=h.1;simpa using this,fun i k' d' hi=>by simpa using h.2 (i+1) k' d' qU⟩
theorem yW {w:World} {ok:Nat→Prop} {kd:Nat} (k:Key): ∀{L:List (Key×D)} {l:List MapEntry},nE w ok kd L l→ ∀z:D,
 (fL L k=false∧dT z L k=z∧e8 L k=L.length)∨
 (fL L k=true∧e8 L k<L.length∧ ∃v b,L[e8 L k]?=some (k,dT z L k)∧l[e8 L k]?=some ⟨k.val,v,b⟩∧RdD w ok (dT z L k) v)
 |[],l,h,z=> .inl ⟨rfl,rfl,rfl⟩
 |(k',d)::L,l,h,z=>by
  match l,h with
  |[],h=>exact absurd h.1 qE
  |e::l,h=>
   obtain⟨_,v,b,h1,h2⟩:=h.2 0 k' d rfl
   cases h1
   by_cases hk:k'=k
   ·subst hk
    exact .inr ⟨by simp[fL],by simp[e8],v,b,by simp[e8,dT],by simp[e8],by simpa[dT]using h2⟩
   ·simp only[fL,dT,e8,if_neg hk]
    rcases yW k h.tail z with⟨h3,h4,h5⟩|⟨h3,h4,v',b',h5,h6,h7⟩
    ·exact .inl ⟨h3,h4,by simp[h5]⟩
    ·exact .inr ⟨h3,qH,v',b',by simpa using h5,by simpa using h6,h7⟩
theorem sB {P:Program} {t e:TypeId} {kd:Nat} (h:jJ P t kd=some e): ∃k,P.underlying t=some (.map k e)∧vG P k kd=true:=by
 unfold jJ at h
 split at h
 ·rename_i k e' hu
  split at h
  ·rename_i hk;cases h;exact⟨k,hu,hk⟩
  ·cases h
 ·cases h
theorem xA {P:Program} {t:TypeId} {z:Value} (h:kO P t=some z) (w':World):(zeroValue t).run P w'= .ok z w':=by
 unfold kO at h
 cases hi:P.info? t with
 |none=>simp[hi]at h
 |some i=>
  cases hz:i.zero with
  |none=>simp[hi,hz]at h
  |some z'=>
   simp[hi,hz]at h
   subst h
   simp[zeroValue,typeInfo,hi,hz]
theorem pY {w:World} {ok:Nat→Prop} {x:D} {k:Key} {v:Value} (h:keyOf x=some k) (hx:RdD w ok x v):v=k.val:=by
 unfold keyOf at h
 split at h
 ·cases h;cases hx;rfl
 ·cases h;cases hx;rfl
 ·cases h
  exact zK (X:=[.int .i64 _,.int .i64 _]) rfl hx
 ·cases h
theorem run_checkKey {P:Program} {kt:TypeId} {k:Key} (hk:vG P kt k.kd=true) (e:Bool) (w':World):(Instr.checkKey e 10000 kt k.val).run P w'= .ok () w':=by
 have leaf: ∀(n:Nat) (t:TypeId) (m:Int) (kk:IntKind),P.underlying t=some (.int kk)→(Instr.checkKey e (n+1) t (.int .i64 m)).run P w'= .ok () w':=fun n t m kk hu=>by
  unfold Instr.checkKey
  simp only[Sem.run_bind,run_underlying hu,Result.andThen]
  rfl
 cases k with
 |s l=>
  simp only[Key.kd,vG]at hk
  split at hk
  ·rename_i hu
   show(Instr.checkKey e (9999+1) kt (.string ⟨⟨l⟩⟩)).run P w'= .ok () w'
   unfold Instr.checkKey
   simp only[Sem.run_bind,run_underlying hu,Result.andThen]
   rfl
  ·cases hk
 |i n=>
  simp only[Key.kd,vG]at hk
  split at hk
  ·rename_i hu
   exact leaf 9999 kt n _ hu
  ·cases hk
 |ii a b=>
  simp only[Key.kd,vG,Bool.and_eq_true]at hk
  obtain⟨hk,hs⟩:=hk
  split at hk
  ·rename_i fs hu
   split at hk
   ·rename_i f g hf
    simp only[Bool.and_eq_true,beq_iff_eq]at hk
    obtain⟨⟨⟨h1,h2⟩,h3⟩,h4⟩:=hk
    split at h1
    ·rename_i k1 u1
     split at h2
     ·rename_i k2 u2
      have hfs:fs= #[f,g]:=by apply Array.ext';exact hf
      have p1: ∀n:Nat,n<2→(part f.type #[Value.int .i64 a,.int .i64 b] n).run P w'= .ok (if n=0 then .int .i64 a else .int .i64 b) w':=fun n hn=>by
       match n,hn with
       |0,_=>simp[part,dS (show aK P f.type=some false by simp[aK,u1])]
       |1,_=>simp[part,dS (show aK P f.type=some false by simp[aK,u1])]
      have p2: ∀n:Nat,n<2→(part g.type #[Value.int .i64 a,.int .i64 b] n).run P w'= .ok (if n=0 then .int .i64 a else .int .i64 b) w':=fun n hn=>by
       match n,hn with
       |0,_=>simp[part,dS (show aK P g.type=some false by simp[aK,u2])]
       |1,_=>simp[part,dS (show aK P g.type=some false by simp[aK,u2])]
      show(Instr.checkKey e (9999+1) kt (.agg #[.int .i64 a,.int .i64 b])).run P w'= .ok () w'
      unfold Instr.checkKey
      simp only[Sem.run_bind,run_underlying hu,Result.andThen,hfs]
      have l1:=leaf 9998 f.type a k1 u1
      have l2:=leaf 9998 g.type b k2 u2
      by_cases n1:f.name= "_" <;>by_cases n2:g.name= "_" <;>simp[n1,n2,h3,h4,p1,p2,l1,l2,Result.andThen]
     ·cases h2
    ·cases h1
   ·cases hk
  ·cases hk
theorem BZ {P:Program} {kt:TypeId} {k k':Key} (hk:vG P kt k.kd=true) (he:k'.kd=k.kd) (w':World):(Op.equal kt k.val k'.val).run P w'= .ok (decide (k'=k)) w'∧(k.kd<2→ ∀d,P.underlying kt=some d→Instr.sameNow d k.val k'.val=some (decide (k'=k))):=by
 cases k with
 |s l=>
  cases k' with
  |s l'=>
   simp only[Key.kd,vG]at hk
   split at hk
   ·rename_i hu
    have hb:((⟨⟨l⟩⟩:ByteArray)==⟨⟨l'⟩⟩)=decide (Key.s l'=Key.s l):=by
     show((⟨l⟩:Array UInt8)==⟨l'⟩)=_
     by_cases e:l'=l
     ·subst e;simp
     ·rw[decide_eq_false (fun h=>e (Key.s.inj h)),beq_eq_false_iff_ne]
      intro h;exact e (Array.mk.inj h).symm
    have:=run_equalIn_string w' 9999 kt ⟨⟨l⟩⟩ ⟨⟨l'⟩⟩ hu
    refine⟨?_,fun _ d hd=>?_⟩
    ·rw[←hb,beq_toListBytes];exact this
    ·obtain rfl:=Option.some.inj (hd.symm.trans hu)
     simp only[Key.val,Instr.sameNow,hb]
   ·cases hk
  |_=>cases he
 |i n=>
  cases k' with
  |i n'=>
   simp only[Key.kd,vG]at hk
   split at hk
   ·rename_i kk hu
    have hb:(n==n')=decide (Key.i n'=Key.i n):=by
     by_cases e:n'=n
     ·subst e;simp
     ·rw[decide_eq_false (fun h=>e (Key.i.inj h)),beq_eq_false_iff_ne]
      exact fun h=>e h.symm
    have:=run_equalIn_int w' 9999 kt .i64 _ n n' hu
    refine⟨?_,fun _ d hd=>?_⟩
    ·rw[←hb];exact this
    ·obtain rfl:=Option.some.inj (hd.symm.trans hu)
     simp only[Key.val,Instr.sameNow,hb,if_true]
   ·cases hk
  |_=>cases he
 |ii a b=>
  cases k' with
  |ii a' b'=>
   simp only[Key.kd,vG,Bool.and_eq_true,beq_iff_eq]at hk
   obtain⟨hk,hs⟩:=hk
   split at hk
   ·rename_i fs hu
    have ha:aK P kt=some true:=by simp[aK,hu]
    have h:=w7 9 9991 kt _ hs [.int .i64 a,.int .i64 b] [.int .i64 a',.int .i64 b'] _ (by simp[dY,r9];rfl) _ _ (.inl ⟨ha,rfl⟩) (.inl ⟨ha,rfl⟩) w'
    refine⟨?_,fun h=>by simp[Key.kd]at h⟩
    have hb:((a==a')&&(b==b'))=decide (Key.ii a' b'=Key.ii a b):=by
     by_cases e:a'=a
     ·subst e
      by_cases e2:b'=b
      ·subst e2;simp
      ·have e3: ¬b=b':=fun h=>e2 h.symm
       simp[e2,e3]
     ·have e3: ¬a=a':=fun h=>e h.symm
      simp[e,e3]
    rw[←hb]
    exact h
   ·cases hk
  |_=>cases he
theorem vJ {P:Program} {kt:TypeId} {w:World} {ok:Nat→Prop} {k:Key} (hk:vG P kt k.kd=true) {L:List (Key×D)} {l:List MapEntry} (h:nE w ok k.kd L l) (w':World):
 (Instr.findKey kt k.val l).run P w'= .ok (if fL L k then some (e8 L k,((l[e8 L k]?).map (·.val)).getD undef)else none) w':=by
 have now: ∀{L:List (Key×D)} {l:List MapEntry} (_:nE w ok k.kd L l) (d:TypeDesc) (_:P.underlying kt=some d) (_:k.kd<2) (j:Nat),
  Instr.findNow d k.val l j=some (if fL L k then some (j+e8 L k,((l[e8 L k]?).map (·.val)).getD undef)else none):=by
  intro L
  induction L with
  |nil=>
   intro l h d hd h2 j
   obtain rfl:l=[]:=List.eq_nil_of_length_eq_zero h.1
   rfl
  |cons p L ih=>
   intro l h d hd h2 j
   match l,h with
   |[],h=>exact absurd h.1 qE
   |e::l,h=>
    obtain⟨hk',v,b,h1,_⟩:=h.2 0 p.1 p.2 rfl
    cases h1
    have hs:=(BZ (k':=p.1) hk hk' w').2 h2 d hd
    simp only[Instr.findNow,hs]
    by_cases hp:p.1=k
    ·simp[hp,fL,e8]
    ·simp only[decide_eq_false hp,ih h.tail d hd h2 (j+1),fL,e8,if_neg hp]
     simp[Nat.add_assoc,Nat.add_comm 1]
 have ask: ∀{L:List (Key×D)} {l:List MapEntry} (_:nE w ok k.kd L l) (j:Nat),
  (Instr.findAsking kt k.val l j).run P w'= .ok (if fL L k then some (j+e8 L k,((l[e8 L k]?).map (·.val)).getD undef)else none) w':=by
  intro L
  induction L with
  |nil=>
   intro l h j
   obtain rfl:l=[]:=List.eq_nil_of_length_eq_zero h.1
   rfl
  |cons p L ih=>
   intro l h j
   match l,h with
   |[],h=>exact absurd h.1 qE
   |e::l,h=>
    obtain⟨hk',v,b,h1,_⟩:=h.2 0 p.1 p.2 rfl
    cases h1
    have hs:=(BZ (k':=p.1) hk hk' w').1
    simp only[Instr.findAsking,Sem.run_bind,hs,Result.andThen_ok]
    by_cases hp:p.1=k
    ·simp[hp,fL,e8]
    ·simp only[decide_eq_false hp,Bool.false_eq_true,if_false,ih h.tail (j+1),fL,e8,if_neg hp]
     simp[Nat.add_assoc,Nat.add_comm 1]
 have hu: ∃d,P.underlying kt=some d:=by
  cases hu:P.underlying kt with
  |some d=>exact⟨d,rfl⟩
  |none=>
   exfalso
   cases k<;>simp[Key.kd,vG,hu]at hk
 obtain⟨d,hd⟩:=hu
 simp only[Instr.findKey,Sem.run_bind,run_underlying hd,Result.andThen_ok]
 by_cases h2:k.kd<2
 ·rw[now h d hd h2 0]
  simp
 ·cases hn:Instr.findNow d k.val l 0 with
  |none=>
   have:=ask h 0
   simpa using this
  |some r=>
   cases k with
   |ii a b=>
    cases l with
    |nil=>
     obtain rfl:L=[]:=List.eq_nil_of_length_eq_zero h.1.symm
     cases hn
     rfl
    |cons e l=>
     exfalso
     simp only[Key.kd,vG,Bool.and_eq_true]at hk
     obtain⟨hk,_⟩:=hk
     rw[hd]at hk
     cases d<;>first|(simp at hk;done)|simp[Instr.findNow,Instr.sameNow]at hn
   |_=>simp[Key.kd]at h2
theorem Ku {ks:List Key} {f:Nat→D} {i:Nat} {k:Key} {d:D} (h:(iD ks f)[i]?=some (k,d)):ks[i]?=some k∧d=f i∧i<ks.length:=by
 unfold iD at h
 rw[List.getElem?_map]at h
 obtain⟨j,h1,h2⟩:=Option.map_eq_some_iff.1 h
 obtain⟨h3,rfl⟩:=List.getElem?_eq_some_iff.1 h1
 simp only[List.length_range]at h3
 simp only[List.getElem_range]at h2
 obtain⟨rfl,rfl⟩:=Prod.mk.inj h2
 exact⟨by simp[List.getD,h3],rfl,h3⟩
theorem zL {t e:TypeId} {y z:Operand} {cm:Bool} {k:Key} {L:List (Key×D)} {es:Array MapEntry} {nx b:Nat} {zv:Value} (ho:o.op= .lookup t y z cm) (he:jJ C.P t k.kd=some e) (hz:kO C.P e=some zv) (hb:b<w.heap.size) (hw:w.heap[b]?=some (.map es nx))
 (hy:a.eval y= .map (some b)) (hk:a.eval z=k.val) (hd:nE w ok k.kd L es.toList):Yields C w ok h a o (bif cm then .d (.tup [dT (.lit zv) L k,.lit (.bool (fL L k))])else .d (dT (.lit zv) L k)):=by
 obtain⟨kt,hu,hkt⟩:=sB he
 have hget: ∀w',(∀b,b<w.heap.size→w'.heap[b]?=w.heap[b]?)→(getObj b).run C.P w'= .ok (.map es nx) w':=fun w' hw'=>by
  simp[getObj,Sem.run,hw' b hb,hw]
 have two: ∀{d1:D} {u1:Value} {bb:Bool},RdD w ok d1 u1→RdV w ok h (.d (.tup [d1,.lit (.bool bb)])) (.tuple #[u1,.bool bb]):=fun{d1 u1 bb} h1=> .d _ _ (.tup _ _ (fun i=>(#[u1,.bool bb])[i]?.getD undef) rfl (fun i hi=>by
  match i,hi with
  |0,_=>rfl
  |1,_=>rfl) (fun i d hd=>by
  match i,hd with
  |0,hd=>cases hd;exact h1
  |1,hd=>cases hd;exact .lit _))
 have hf:=vJ hkt hd
 rcases yW k hd (.lit zv)with⟨g1,g2,g3⟩|⟨g1,g2,v,bn,g3,g4,g5⟩
 ·have run: ∀w',(∀b,b<w.heap.size→w'.heap[b]?=w.heap[b]?)→(execOp a.eval o).run C.P w'= .ok (.value (if cm then .tuple #[zv,.bool false]else zv)) w':=fun w' hw'=>by
   simp[execOp,ho,hy,hk,Instr.lookup,run_underlying hu,hget w' hw',run_checkKey hkt,hf w',g1,xA hz w',Result.andThen]
  refine⟨_,?_,run⟩
  rw[g1,g2]
  cases cm
  ·exact .d _ _ (.lit _)
  ·exact two (.lit _)
 ·have run: ∀w',(∀b,b<w.heap.size→w'.heap[b]?=w.heap[b]?)→(execOp a.eval o).run C.P w'= .ok (.value (if cm then .tuple #[v,.bool true]else v)) w':=fun w' hw'=>by
   simp[execOp,ho,hy,hk,Instr.lookup,run_underlying hu,hget w' hw',run_checkKey hkt,hf w',g1,g4,Result.andThen]
  refine⟨_,?_,run⟩
  rw[g1]
  cases cm
  ·exact .d _ _ g5
  ·exact two g5
theorem C3 (r:Rep C st ok h a w) (hE:fI w ok h a E) {t:TypeId} {y z:Operand} {cm:Bool} (ho:o.op= .lookup t y z cm) (he:tD C.P st.aD t cm (E y) (E z)=some (x,p)) (_hp:p):Yields C w ok h a o x:=by
 unfold tD at he
 split at he
 ·rename_i id x' hy hz
  split at he
  ·rename_i kd L k hl hkx
   split at he
   ·rename_i zv hzz
    split at he
    ·rename_i hkd
     subst hkd
     obtain⟨rfl,rfl⟩:=Prod.mk.inj (Option.some.inj he)
     obtain⟨e,h1,h2⟩:=Option.bind_eq_some_iff.1 hzz
     have e1:=hE _ _ hy
     have e2:=hE _ _ hz
     generalize hv:a.eval y=v at e1
     generalize hvz:a.eval z=vz at e2
     cases e2 with
     |d _ _ e2=>
     cases e1 with
     |mp _ b hb=>
      obtain⟨b',es,h3,h4,h5,h6⟩:=r.mem.obj id _ hl
      obtain rfl:b'=b:=Option.some.inj (h3.symm.trans hb)
      have hlt:b'<w.heap.size:=(Array.getElem?_eq_some_iff.1 h4).1
      exact zL ho h1 h2 hlt h4 hv (hvz.trans (pY hkx e2)) ⟨by simpa using h5,fun i k d hi=>by
       obtain⟨hk,v,hv1,hv2⟩:=h6 i k d hi
       exact⟨hk,v,i,by simpa using hv1,hv2⟩⟩
    ·cases he
   ·cases he
  ·cases he
 ·rename_i kd ks f x' hy hz
  split at he
  ·rename_i k zv hkx hzz
   split at he
   ·rename_i hkd
    subst hkd
    obtain⟨rfl,rfl⟩:=Prod.mk.inj (Option.some.inj he)
    obtain⟨e,h1,h2⟩:=Option.bind_eq_some_iff.1 hzz
    have e1:=hE _ _ hy
    have e2:=hE _ _ hz
    generalize hv:a.eval y=v at e1
    generalize hvz:a.eval z=vz at e2
    cases e2 with
    |d _ _ e2=>
    cases e1 with
    |d _ _ e1=>
    cases e1 with
    |mp _ _ _ b nx es g hb hw hn hg hd=>
     have hlt:b<w.heap.size:=(Array.getElem?_eq_some_iff.1 hw).1
     exact zL ho h1 h2 hlt hw hv (hvz.trans (pY hkx e2)) ⟨by simp[iD,hn],fun i k d hi=>by
      obtain⟨i1,rfl,i3⟩:=Ku hi
      obtain⟨i4,i5⟩:=hg i k i1
      exact⟨i4,g i,i,by simpa using i5,hd i i3⟩⟩
   ·cases he
  ·cases he
 ·cases he
theorem Kv (r:Rep C st ok h a w) (hE:fI w ok h a E) {t:TypeId} {y:Operand} {ty:TypeId} (ho:o.op= .call {callee:= .builtin .len,args:= #[y],argTypes:= #[t]}) (he:Js C.P t (E y)=some (x,p)) (_hp:p):Yields C w ok h a o x:=by
 unfold Js at he
 split at he
 ·rename_i s hy
  split at he
  ·rename_i hs
   obtain⟨rfl,rfl⟩:=Prod.mk.inj (Option.some.inj he)
   have e1:=aX (hE _ _ hy)
   refine bD _ fun w'=>?_
   simp[execOp,ho,e1,resolve,invoke,builtin,Builtin.len_,run_underlying (fE hs),goInt]
  ·cases he
 ·rename_i n f hy
  obtain⟨q,hq,hx⟩:=Option.map_eq_some_iff.1 he
  obtain⟨rfl,rfl⟩:=Prod.mk.inj hx
  have e1:=hE _ _ hy
  generalize hv:a.eval y=v at e1
  cases e1 with
  |d _ _ hx=>cases hx with
   |sl _ _ A cap size b off g hc hm hA hl hg hd=>
    refine bD _ fun w'=>?_
    simp[execOp,ho,hv,resolve,invoke,builtin,Builtin.len_,run_underlying (bF hq).1,goInt]
 ·rename_i id n hy
  obtain⟨q,hq,hx⟩:=Option.map_eq_some_iff.1 he
  obtain⟨rfl,rfl⟩:=Prod.mk.inj hx
  have e1:=hE _ _ hy
  generalize hv:a.eval y=v at e1
  cases e1 with
  |os _ _ hcap=>
   refine bD _ fun w'=>?_
   simp[execOp,ho,hv,resolve,invoke,builtin,Builtin.len_,run_underlying (bF hq).1,goInt]
 ·rename_i hy
  obtain⟨q,hq,hx⟩:=Option.map_eq_some_iff.1 he
  obtain⟨rfl,rfl⟩:=Prod.mk.inj hx
  have e1:=aX (hE _ _ hy)
  refine bD _ fun w'=>?_
  simp[execOp,ho,e1,resolve,invoke,builtin,Builtin.len_,run_underlying (bF hq).1,goInt]
 ·cases he
theorem Kw (r:Rep C st ok h a w) (hE:fI w ok h a E) {t:TypeId} {y:Operand} (ho:o.op= .call {callee:= .builtin .cap,args:= #[y],argTypes:= #[t]}) (he:Jt C.P t (E y)=some (x,p)) (_hp:p):Yields C w ok h a o x:=by
 unfold Jt at he
 split at he
 ·rename_i hy
  obtain⟨q,hq,hx⟩:=Option.map_eq_some_iff.1 he
  obtain⟨rfl,rfl⟩:=Prod.mk.inj hx
  have e1:=aX (hE _ _ hy)
  refine bD _ fun w'=>?_
  simp[execOp,ho,e1,resolve,invoke,builtin,Builtin.cap_,run_underlying (bF hq).1,goInt]
 ·cases he
theorem Ky (r:Rep C st ok h a w) (hE:fI w ok h a E) {ts:Array TypeId} {y z:Operand} (ho:o.op= .call {callee:= .builtin .min,args:= #[y,z],argTypes:=ts}) (he:kP true (E y) (E z)=some (x,p)) (_hp:p):Yields C w ok h a o x:=by
 unfold kP at he
 split at he
 ·rename_i k n k' m hy hz
  obtain⟨rfl,rfl⟩:=Prod.mk.inj (Option.some.inj he)
  have e1:=aX (hE _ _ hy)
  have e2:=aX (hE _ _ hz)
  refine bD _ fun w'=>?_
  simp[execOp,ho,e1,e2,resolve,invoke,builtin,Builtin.min_,Builtin.min2]
 ·cases he
theorem Kz (r:Rep C st ok h a w) (hE:fI w ok h a E) {ts:Array TypeId} {y z:Operand} (ho:o.op= .call {callee:= .builtin .max,args:= #[y,z],argTypes:=ts}) (he:kP false (E y) (E z)=some (x,p)) (_hp:p):Yields C w ok h a o x:=by
 unfold kP at he
 split at he
 ·rename_i k n k' m hy hz
  obtain⟨rfl,rfl⟩:=Prod.mk.inj (Option.some.inj he)
  have e1:=aX (hE _ _ hy)
  have e2:=aX (hE _ _ hz)
  refine bD _ fun w'=>?_
  simp[execOp,ho,e1,e2,resolve,invoke,builtin,Builtin.max_,Builtin.max2]
 ·cases he
theorem HP (r:Rep C st ok h a w) (hE:fI w ok h a E) {s t:TypeId} {y:Operand} (ho:o.op= .convert s t y) (he:zH C.P s t (E y)=some (x,p)) (hp:p):Yields C w ok h a o x:=by
 unfold zH at he
 split at he
 ·rename_i k n hy
  split at he
  ·rename_i k1 k2 hs ht
   obtain⟨rfl,rfl⟩:=Prod.mk.inj (Option.some.inj he)
   have e1:=aX (hE _ _ hy)
   have hw:=mD hp
   refine bD _ fun w'=>?_
   simp[execOp,ho,e1,convert,run_underlying (pX hs),run_underlying (pX ht),Conv.intToInt,hw]
  ·rename_i k1 hs ht
   split at he
   ·rename_i hst
    obtain⟨rfl,rfl⟩:=Prod.mk.inj (Option.some.inj he)
    have e1:=aX (hE _ _ hy)
    refine bD _ fun w'=>?_
    simp[execOp,ho,e1,convert,run_underlying (pX hs),run_underlying (fE hst),Conv.intToString]
   ·cases he
  ·cases he
 ·rename_i s' hy
  split at he
  ·rename_i hs
   simp only[Bool.and_eq_true]at hs
   obtain⟨rfl,rfl⟩:=Prod.mk.inj (Option.some.inj he)
   have e1:=aX (hE _ _ hy)
   refine bD _ fun w'=>?_
   simp[execOp,ho,e1,convert,run_underlying (fE hs.1),run_underlying (fE hs.2)]
  ·cases he
 ·cases he
theorem oV {P:Program} {t:TypeId} (h:lW P t=true): ∃e,P.underlying t=some (.slice e)∧P.underlying e=some (.int .u8)∧ ∃i,P.info? e=some i∧i.size=1:=by
 unfold lW at h
 split at h
 ·rename_i e he
  obtain⟨h1,i,h2,h3⟩:=bF he
  exact⟨e,h1,pX q8,i,h2,h3⟩
 ·cases h
theorem lG (b:UInt8):gR (aZ b)=b:=by simp[gR,aZ]
theorem lY {P:Program} {s t:TypeId} (hs:lW P s=true) (ht:aP P t=true) (w':World) (A:Option Addr) (n cap:Nat) (l:List UInt8) (hn:l.length=n)
 (hA:0<n→ ∃b off,A=some ⟨b,off,none⟩∧ ∀(i:Nat) (x:UInt8),l[i]?=some x→w'.cell? ⟨b,off+i,none⟩=some (.int .u8 (x.toNat:Int))):
 (convert s t (.slice A n cap)).run P w'= .ok (.string (bs l)) w':=by
 obtain⟨e,h1,h2,_⟩:=oV hs
 have h3:=fE ht
 cases A with
 |none=>
  have:n=0:=by
   rcases Nat.eq_zero_or_pos n with h|h
   ·exact h
   ·obtain⟨_,_,h4,_⟩:=hA h;cases h4
  subst this
  obtain rfl:l=[]:=List.eq_nil_of_length_eq_zero hn
  exact run_convert_bytes_nil w' s e h1 h2 0 cap t h3
 |some a=>
  rcases Nat.eq_zero_or_pos n with h|h
  ·subst h
   obtain rfl:l=[]:=List.eq_nil_of_length_eq_zero hn
   have hl:(loadCells a 0).run P w'= .ok (([]:List Int).map (Value.int .u8)).toArray w':=run_loadCells_list (P:=P) w' a [] (fun j v hj=>by simp at hj)
   rw[run_convert_bytes_string w' s t e _ 0 cap h1 h2 h3,run_bytesToString w' _ 0 cap [] hl]
   rfl
  ·obtain⟨b,off,h4,h5⟩:=hA h
   cases h4
   have:=run_convert_bytes_arg (P:=P) w' s e h1 h2 b off n cap (l.map fun x=>(x.toNat:Int)) QK (fun i hi=>by
    have hil:i<l.length:=by omega
    rw[h5 i l[i] (by simp[hil])]
    simp[List.getD,hil]) t h3
   rw[this]
   congr 2
   simp[strOfNums,bs,Function.comp_def]
theorem EJ (r:Rep C st ok h a w) (hE:fI w ok h a E) {s t:TypeId} {y:Operand} (ho:o.op= .convert s t y) (he:yU C.P st.aD s t (E y)=some (x,p)) (hp:p):Yields C w ok h a o x:=by
 unfold yU at he
 split at he
 ·rename_i n f hy
  split at he
  ·rename_i hb
   simp only[Bool.and_eq_true]at hb
   obtain⟨rfl,rfl⟩:=Prod.mk.inj (Option.some.inj he)
   have e1:=hE _ _ hy
   generalize hv:a.eval y=v at e1
   cases e1 with
   |d _ _ hx=>cases hx with
    |sl _ _ A cap size b off g hc hm hA hl hg hd=>
     refine⟨_,.d _ _ (.lit _),fun w' hw'=>?_⟩
     simp only[execOp,ho,hv,Sem.run_bind]
     rw[lY hb.1 hb.2 w' A n cap ((List.range n).map fun i=>gR (f i)) qE (fun hn=>⟨b,off,(hA hn).1,fun i u hi=>?_⟩)]
     ·rfl
     ·have hin:i<n:=by have:=(List.getElem?_eq_some_iff.1 hi).1;simpa using this
      simp[hin]at hi
      obtain⟨c,hc'⟩:=hp i hin
      have hs1:size=1:=by rw[←hl i hin,hc'];rfl
      subst hs1
      have h2:=hg i 0 hin qD
      have h3:=hd i 0 (.lit (.int .u8 (c.toNat:Int))) hin (by rw[hc'];rfl)
      rw[hc',lG]at hi
      subst hi
      generalize g i 0=u0 at h2 h3
      cases h3
      rw[fT (hw' b (r.mem.okb b (hA hn).2).1)]
      simpa using h2
  ·cases he
 ·rename_i id n hy
  split at he
  ·rename_i e sz gr es hlo
   split at he
   ·rename_i hb
    simp only[Bool.and_eq_true]at hb
    obtain⟨rfl,rfl⟩:=Prod.mk.inj (Option.some.inj he)
    obtain⟨hn,hall⟩:=hp
    have e1:=hE _ _ hy
    generalize hv:a.eval y=v at e1
    cases e1 with
    |os _ _ hcap=>
     obtain⟨hsz,hcm,h5⟩:=r.mem.obj id _ hlo
     refine⟨_,.d _ _ (.lit _),fun w' hw'=>?_⟩
     simp only[execOp,ho,hv,Sem.run_bind]
     rw[lY hb.1 hb.2 w' (h id).addr n (h id).cap ((es.take n).map gR) qH (fun hn0=>?_)]
     ·rfl
     ·rcases h5 with⟨h6,h7,h8⟩|⟨b',cur,fz,h1,h2,h3,_,h4,h5,h6⟩
      ·subst h7;simp at hn;omega
      ·refine⟨b',0,by simp[Hd.addr,h1],fun i u hi=>?_⟩
       have hin:i<n:=by have:=(List.getElem?_eq_some_iff.1 hi).1;simp at this;omega
       have hie:i<es.length:=by omega
       have hrow:es[i]?=some es[i]:=List.getElem?_eq_getElem hie
       obtain⟨c,hc'⟩:=hall es[i] (by rw[List.mem_take_iff_getElem];exact⟨i,qD,rfl⟩)
       obtain⟨h7,h8⟩:=h6 i _ hrow
       have hs1:sz=1:=by rw[←h7,hc'];rfl
       subst hs1
       obtain⟨v',h9,h10⟩:=h8 0 (.lit (.int .u8 (c.toNat:Int))) (by rw[hc'];rfl)
       cases h10
       have hu:u=c:=by
        simp[hin,hie,hc',lG]at hi
        exact hi.symm
       subst hu
       rw[fT (hw' b' (r.mem.blk id _ b' hlo h1).1)]
       simpa[World.cell?,h2]using h9
   ·cases he
  ·cases he
 ·rename_i hy
  split at he
  ·rename_i hb
   simp only[Bool.and_eq_true]at hb
   obtain⟨rfl,rfl⟩:=Prod.mk.inj (Option.some.inj he)
   have e1:=aX (hE _ _ hy)
   refine bD _ fun w'=>?_
   simp only[execOp,ho,e1,Sem.run_bind]
   rw[lY hb.1 hb.2 w' none 0 0 [] rfl (fun h=>by omega)]
   rfl
  ·cases he
 ·cases he
theorem nF {x:V} {v:Value} (h1:jK x=true) (hx:RdV w ok h x v):v.oneCell'=true:=by
 cases hx with
 |d y _ hy=>cases hy<;>simp_all[jK,Value.oneCell']
 |any _=>cases h1
 |fS=>cases h1
 |gG=>cases h1
 |when=>cases h1
 |_=>rfl
theorem iH {x:V} {v:Value} (h1:(bH x).all jK=true) (hx:RdV w ok h x v):
 v.cells.size=(bH x).length∧ ∀(k:Nat) (y:V),(bH x)[k]?=some y→ ∃u,v.cells[k]?=some u∧RdV w ok h y u∧u.oneCell'=true:=by
 have one:bH x=[x]→v.cells= #[v]→v.cells.size=(bH x).length∧ ∀(k:Nat) (y:V),(bH x)[k]?=some y→ ∃u,v.cells[k]?=some u∧RdV w ok h y u∧u.oneCell'=true:=by
  intro e1 e2
  rw[e1]at h1⊢
  rw[e2]
  refine⟨rfl,fun k y hk=>?_⟩
  cases k with
  |zero=>cases hk;exact⟨v,rfl,hx,nF QR hx⟩
  |succ k=>simp at hk
 cases hx with
 |d y _ hy=>
  cases hy with
  |agg ds vs g hn hg hd=>
   refine⟨by simp[bH,Value.cells,hn],fun k z hk=>?_⟩
   have hz:jK z=true:=List.all_eq_true.1 h1 z (List.mem_of_getElem? hk)
   simp only[bH,List.getElem?_map]at hk
   obtain⟨d,hd1,hd2⟩:=Option.map_eq_some_iff.1 hk
   subst hd2
   have hr:RdV w ok h (.d d) (g k):= .d _ _ (hd k d hd1)
   exact⟨g k,hg k (List.getElem?_eq_some_iff.1 hd1).1,hr,nF hz hr⟩
  |lit v=>
   have hv:v.oneCell'=true:=by simpa[bH,jK]using h1
   exact one rfl (by cases v<;>first|rfl|cases hv)
  |tup=>simp[bH,jK]at h1
  |_=>exact one rfl rfl
 |any _=>simp[bH,jK]at h1
 |when=>simp[bH,jK]at h1
 |gG=>simp[bH,jK]at h1
 |fS cs vs g hn hg hx=>
  refine⟨by simp[bH,Value.cells,hn],fun k z hk=>?_⟩
  have hz:jK z=true:=List.all_eq_true.1 h1 z (List.mem_of_getElem? hk)
  simp only[bH]at hk
  exact⟨g k,hg k (List.getElem?_eq_some_iff.1 hk).1,hx k z hk,nF hz (hx k z hk)⟩
 |_=>exact one rfl rfl
theorem dN {P:Program} {t:TypeId} {zs:List Value} (he:aL P t=some zs) (w':World): ∃z,(zeroValue t).run P w'= .ok z w'∧z.cells.toList=zs:=by
 unfold aL at he
 cases hi:P.info? t with
 |none=>simp[hi]at he
 |some i=>
  cases hz:i.zero with
  |none=>simp[hi,hz]at he
  |some z=>
   simp[hi,hz]at he
   exact⟨z,by simp[zeroValue,typeInfo,hi,hz],he⟩
def zM (w:World) (ok:Nat→Prop) (h:Nat→Hd) (cells:List V) (cs:Array Value):Prop:=
 cs.size=cells.length∧ ∀(k:Nat) (y:V),cells[k]?=some y→ ∃u,cs[k]?=some u∧RdV w ok h y u
theorem B1 (off:Nat): ∀(l:List Value) (j:Nat) (cs:Array Value),off+j+l.length≤cs.size→
 ((l.zipIdx j).foldl (fun cs x=>cs.setIfInBounds (off+x.2) x.1) cs).size=cs.size∧
 ∀k,((l.zipIdx j).foldl (fun cs x=>cs.setIfInBounds (off+x.2) x.1) cs)[k]?=if off+j≤k∧k<off+j+l.length then l[k-(off+j)]? else cs[k]?
 |[],j,cs,_=>⟨rfl,fun k=>by simp;omega⟩
 |v::l,j,cs,hl=>by
  simp only[List.length_cons]at hl
  have ih:=B1 off l (j+1) (cs.setIfInBounds (off+j) v) qH
  simp only[List.zipIdx_cons,List.foldl_cons]
  refine⟨by simpa using ih.1,fun k=>?_⟩
  rw[ih.2 k]
  simp only[List.length_cons]
  by_cases hk:k=off+j
  ·subst hk
   rw[if_neg qD,if_pos qD,Array.getElem?_setIfInBounds]
   simp
   omega
  ·by_cases hk2:off+(j+1)≤k∧k<off+(j+1)+l.length
   ·rw[if_pos hk2,if_pos qD]
    obtain⟨i,rfl⟩: ∃i,k=off+(j+1)+i:=⟨k-(off+(j+1)),qD⟩
    have e1:off+(j+1)+i-(off+(j+1))=i:=by omega
    have e2:off+(j+1)+i-(off+j)=i+1:=by omega
    rw[e1,e2]
    simp
   ·rw[if_neg hk2,if_neg qD,Array.getElem?_setIfInBounds,if_neg (fun e=>hk e.symm)]
theorem B2 (off:Nat) (vs cs:Array Value) (hl:off+vs.size≤cs.size):
 (vs.zipIdx.foldl (fun cs x=>cs.setIfInBounds (off+x.2) x.1) cs).size=cs.size∧
 ∀k,(vs.zipIdx.foldl (fun cs x=>cs.setIfInBounds (off+x.2) x.1) cs)[k]?=if off≤k∧k<off+vs.size then vs[k-off]? else cs[k]?:=by
 obtain⟨l⟩:=vs
 have:=B1 off l 0 cs (by simpa using hl)
 simpa using this
theorem zM.lay {cells:List V} {cs:Array Value} {x:V} {v:Value} {off size:Nat} (hr:zM w ok h cells cs) (h1:(bH x).all jK=true) (hx:RdV w ok h x v) (hs:(bH x).length=size) (hf:off+size≤cells.length):
 v.cells.size=size∧off+v.cells.size≤cs.size∧zM w ok h (cells.take off++bH x++cells.drop (off+size)) (v.cells.zipIdx.foldl (fun cs x=>cs.setIfInBounds (off+x.2) x.1) cs):=by
 obtain⟨h2,h3⟩:=iH h1 hx
 obtain⟨h4,h5⟩:=hr
 have hle:off+v.cells.size≤cs.size:=by omega
 obtain⟨h6,h7⟩:=B2 off v.cells cs hle
 refine⟨qD,hle,?_,fun k y hk=>?_⟩
 ·rw[h6]
  simp only[List.length_append,List.length_take,List.length_drop]
  omega
 ·rw[h7 k]
  by_cases hk1:k<off
  ·rw[if_neg qD]
   rw[List.append_assoc,List.getElem?_append_left qH,List.getElem?_take,if_pos hk1]at hk
   exact h5 k y hk
  ·by_cases hk2:k<off+size
   ·rw[if_pos qD]
    rw[List.append_assoc,List.getElem?_append_right qH,List.getElem?_append_left qH]at hk
    simp only[List.length_take]at hk
    rw[Nat.min_eq_left qD]at hk
    obtain⟨u,h8,h9,_⟩:=h3 _ y hk
    exact⟨u,h8,h9⟩
   ·rw[if_neg qD]
    rw[List.append_assoc,List.getElem?_append_right qH,List.getElem?_append_right qH,List.getElem?_drop]at hk
    simp only[List.length_take]at hk
    rw[Nat.min_eq_left qD,hs,show off+size+(k-off-size)=k by omega]at hk
    exact h5 k y hk
theorem oW {R:Operand→Option V} (hR:fI w ok h a R) {pl:List (Nat×Nat)} {place:Nat→Option (Nat×Nat)} (hpl: ∀i q,pl[i]?=some q→place i=some q): ∀{parts:List (Nat×Operand)} {cells cells':List V} {cs:Array Value},
 BW pl cells (parts.map fun q=>(q.1,R q.2))=some cells'→zM w ok h cells cs→ ∃cs',Instr.fill place cs (parts.map fun q=>(q.1,a.eval q.2))=some cs'∧zM w ok h cells' cs'
 |[],cells,cells',cs,he,hr=>by
  cases he
  exact⟨cs,rfl,hr⟩
 |(i,y)::parts,cells,cells',cs,he,hr=>by
  simp only[List.map_cons]at he⊢
  cases hy:R y with
  |none=>simp[hy,BW]at he
  |some x=>
   rw[hy]at he
   simp only[BW]at he
   split at he
   ·rename_i off size hp
    split at he
    ·rename_i hb
     simp only[Bool.and_eq_true,decide_eq_true_eq,beq_iff_eq]at hb
     obtain⟨h1,h2,h3⟩:=hr.lay hb.1.1 (hR _ _ hy) hb.1.2 hb.2
     obtain⟨cs',h4,h5⟩:=oW hR hpl he h3
     refine⟨cs',?_,h5⟩
     simp only[Instr.fill,hpl i _ hp]
     rw[if_neg qH]
     exact h4
    ·cases he
   ·cases he
theorem zN {zs:List Value} {z:Value} (hz:z.cells.toList=zs):zM w ok h (ED zs) z.cells:=by
 subst hz
 refine⟨by simp[ED],fun k y hk=>?_⟩
 simp only[ED,List.getElem?_map]at hk
 obtain⟨u,h1,h2⟩:=Option.map_eq_some_iff.1 hk
 subst h2
 exact⟨u,QR,.d _ _ (.lit u)⟩
theorem B3 {cells:List V} {cs:Array Value} (hr:zM w ok h cells cs):RdV w ok h (w4 cells) (.agg cs):=by
 obtain⟨h1,h2⟩:=hr
 refine lF (g:=fun k=>cs.getD k undef) h1 (fun i hi=>?_) (fun i x hx=>?_)
 ·have:i<cs.size:=by omega
  simp[Array.getElem?_eq_getElem this]
 ·obtain⟨u,h3,h4⟩:=h2 i x hx
  have:cs.getD i undef=u:=by simp[Array.getD_eq_getD_getElem?,h3]
  rw[this];exact h4
theorem oF {P:Program} (w':World): ∀{fs:List Field} {pl:List (Nat×Nat)},fs.mapM (fun f=>(eSz P f.type).map fun n=>(f.offset,n))=some pl→
 (fs.mapM fun f=>(do pure (f.offset,←sizeOf f.type):Sem (Nat×Nat))).run P w'= .ok pl w'
 |[],pl,he=>by cases he;simp
 |f::fs,pl,he=>by
  simp only[List.mapM_cons,bind,Option.bind_eq_some_iff,pure]at he
  obtain⟨q,hq,qs,hqs,hpl⟩:=he
  cases hpl
  obtain⟨n,hn,rfl⟩:=Option.map_eq_some_iff.1 hq
  have ih:=oF w' hqs
  simp only[List.mapM_cons,Sem.run_bind,run_sizeOf hn,Result.andThen_ok,Sem.run_pure]
  rw[ih]
  rfl
theorem EK {R:Operand→Option V} (hR:fI w ok h a R) {t:TypeId} {parts:Array (Nat×Operand)} (ho:o.op= .build t parts) (he:yV C.P t (parts.toList.map fun q=>(q.1,R q.2))=some (x,p)):Yields C w ok h a o x:=by
 unfold yV at he
 split at he
 ·rename_i zs pl hz hp
  split at he
  ·rename_i cells hf
   obtain⟨rfl,rfl⟩:=Prod.mk.inj (Option.some.inj he)
   have hparts:(parts.map fun q=>(q.1,a.eval q.2)).toList=parts.toList.map fun q=>(q.1,a.eval q.2):=by simp
   unfold ePl at hp
   split at hp
   ·rename_i fs hu
    obtain⟨z0,_,hz0⟩:=dN hz w
    obtain⟨cs',h1,h2⟩:=oW hR (place:=(pl.toArray[·]?)) (fun i q hq=>by simpa using hq) hf (zN hz0)
    refine⟨_,B3 h2,fun w' _=>?_⟩
    obtain⟨z,hz1,hz2⟩:=dN hz w'
    have hzz:z.cells=z0.cells:=Array.toList_inj.1 (hz2.trans hz0.symm)
    have hm:(fs.mapM fun f=>(do pure (f.offset,←sizeOf f.type):Sem (Nat×Nat))).run C.P w'= .ok pl.toArray w':=by
     have:=oF w' hp
     rw[←Array.toArray_toList (xs:=fs),List.mapM_toArray,Sem.run_map,this]
     rfl
    simp only[execOp,ho,Instr.build,Sem.run_bind,hz1,Result.andThen_ok,run_underlying hu,hm,hparts,hzz,h1,Sem.run_pure]
   ·rename_i n e hu
    obtain⟨sz,hs,rfl⟩:=Option.map_eq_some_iff.1 hp
    obtain⟨z0,_,hz0⟩:=dN hz w
    obtain⟨cs',h1,h2⟩:=oW hR (place:=fun i=>some (i*sz,sz)) (fun i q hq=>by
     rw[List.getElem?_map]at hq
     obtain⟨j,hj,hq⟩:=Option.map_eq_some_iff.1 hq
     subst hq
     obtain⟨hlt,hj⟩:=List.getElem?_eq_some_iff.1 hj
     simp at hj
     rw[hj]) hf (zN hz0)
    refine⟨_,B3 h2,fun w' _=>?_⟩
    obtain⟨z,hz1,hz2⟩:=dN hz w'
    have hzz:z.cells=z0.cells:=Array.toList_inj.1 (hz2.trans hz0.symm)
    simp only[execOp,ho,Instr.build,Sem.run_bind,hz1,Result.andThen_ok,run_underlying hu,run_sizeOf hs,hparts,hzz,h1,Sem.run_pure]
   ·cases hp
  ·cases he
 ·cases he
theorem zO {E:Operand→Option V} (hE:fI w ok h a E): ∀{l:List Operand} {cs:List V},Mm E l=some cs→cs.length=l.length∧ ∀(i:Nat) (y:V),cs[i]?=some y→ ∃z,l[i]?=some z∧RdV w ok h y (a.eval z)
 |[],cs,he=>by cases he;exact⟨rfl,fun i y hi=>by simp at hi⟩
 |z::l,cs,he=>by
  simp only[Mm]at he
  split at he
  ·rename_i v vs hv hvs
   cases he
   obtain⟨h1,h2⟩:=zO hE hvs
   refine⟨by simp[h1],fun i y hi=>?_⟩
   cases i with
   |zero=>cases hi;exact⟨z,rfl,hE _ _ hv⟩
   |succ i=>simpa using h2 i y qU
  ·cases he
theorem HQ {fn:Fn} {cs:List V} {vs:Array Value} {g:Nat→Value} (hn:vs.size=cs.length) (hg: ∀i,i<cs.length→vs[i]?=some (g i)) (hx: ∀i x,cs[i]?=some x→RdV w ok h x (g i)):RdV w ok h (OU fn cs) (.func fn #[] vs):=by
 cases cs with
 |nil=>
  obtain rfl:vs= #[]:=Array.eq_empty_of_size_eq_zero QK
  exact .d _ _ (.lit _)
 |cons c r=>
  simp only[OU]
  split
  ·rename_i ds hds
   have e:=fU hds
   rw[e]at hn hg hx
   refine .d _ _ (.clo fn ds vs g QK (fun i hi=>hg i qU) fun i d hd=>?_)
   have:=hx i (.d d) (by simp[hd])
   cases this with|d _ _ h=>exact h
  ·exact .eR fn _ vs g hn hg hx
theorem mE {R:Bool→Operand→Option V} (r:Rep C st ok h a w) (hR: ∀g,g=true→fI w ok h a (R g)) (he:ro C.P R true st.aD o.op=some (x,p)) (hp:p):Yields C w ok h a o x:=by
 have hE:=hR true rfl
 generalize ho:o.op=op at he
 cases op<;>simp only[ro]at he<;>try(cases he;done)
 case move y=>
  obtain⟨v,hv,hx⟩:=Option.map_eq_some_iff.1 he
  obtain⟨rfl,rfl⟩:=Prod.mk.inj hx
  exact⟨_,hE _ _ hv,fun w' _=>by simp[execOp,ho]⟩
 case assign y=>
  obtain⟨v,hv,hx⟩:=Option.map_eq_some_iff.1 he
  obtain⟨rfl,rfl⟩:=Prod.mk.inj hx
  exact⟨_,hE _ _ hv,fun w' _=>by simp[execOp,ho]⟩
 case pick c y z=>
  split at he
  ·rename_i b hc
   exact HM hR ho hc he
  ·cases he
 case binOp op t y z u=>exact Kt r hE ho he hp
 case unOp op t y=>exact Mp r hE ho he hp
 case field t y f=>exact EG r hE ho he hp
 case fieldAddr t y f=>exact yH r hE ho he hp
 case load t y=>exact HO r hE ho he hp
 case indexAddr t y i=>exact yI r hE ho he hp
 case build t parts=>exact EK hE ho he
 case index t y i=>exact EH r hE ho he hp
 case lookup t y i b=>exact C3 r hE ho he hp
 case slice t y lo hi mx=>
  cases mx with
  |none=>exact EI r hE ho (by simpa[ro]using he) hp
  |some m=>exact C2 r hE ho (by simpa[ro]using he) hp
 case convert s t y=>
  cases hq:zH C.P s t (R true y)with
  |some q=>rw[hq]at he;exact HP r hE ho (by rw[hq];exact he) hp
  |none=>rw[hq]at he;exact EJ r hE ho he hp
 case nilCheck y=>
  unfold Ml at he
  split at he
  ·rename_i id off hy
   obtain⟨rfl,rfl⟩:=Prod.mk.inj (Option.some.inj he)
   have e1:=hE _ _ hy
   refine⟨_,e1,fun w' _=>?_⟩
   generalize hv:a.eval y=v at e1
   cases e1 with|bp _ _ b hb=>simp[execOp,ho,hv]
  ·rename_i id i off hy
   obtain⟨rfl,rfl⟩:=Prod.mk.inj (Option.some.inj he)
   have e1:=hE _ _ hy
   refine⟨_,e1,fun w' _=>?_⟩
   generalize hv:a.eval y=v at e1
   cases e1 with|el _ _ _ b hb=>simp[execOp,ho,hv]
  ·rename_i cs off hy
   obtain⟨rfl,rfl⟩:=Prod.mk.inj (Option.some.inj he)
   have e1:=hE _ _ hy
   refine⟨_,e1,fun w' _=>?_⟩
   generalize hv:a.eval y=v at e1
   cases e1 with|d _ _ hx=>cases hx with|ip=>simp[execOp,ho,hv]
  ·cases he
 case makeFunc fn first caps=>
  split at he
  ·rename_i hf
   obtain⟨cs,hcs,hx⟩:=Option.map_eq_some_iff.1 he
   obtain⟨rfl,rfl⟩:=Prod.mk.inj hx
   obtain rfl:first= #[]:=by simpa using hf
   obtain⟨h1,h2⟩:=zO hE hcs
   refine⟨.func fn #[] (caps.map a.eval),?_,fun w' _=>by simp[execOp,ho,Instr.makeFunc]⟩
   refine HQ (g:=fun i=>(caps.map a.eval).getD i undef) (by simp at h1⊢;omega) (fun i hi=>?_) (fun i y hy=>?_)
   ·have hsz:i<caps.size:=by simp at h1;omega
    simp[Array.getD,hsz]
   ·obtain⟨z,h3,h4⟩:=h2 i y hy
    have h3':caps[i]?=some z:=by simpa using h3
    simpa[Array.getD_eq_getD_getElem?,h3']using h4
  ·cases he
 case extract y i=>
  split at he
  ·rename_i cs hy
   obtain⟨d,hd,hx⟩:=Option.map_eq_some_iff.1 he
   obtain⟨rfl,rfl⟩:=Prod.mk.inj hx
   have e1:=hE _ _ hy
   generalize hv:a.eval y=v at e1
   cases e1 with
   |d _ _ hx=>cases hx with
    |tup _ vs g hn hg hr=>
     refine⟨g i,.d _ _ (hr i d hd),fun w' _=>?_⟩
     simp[execOp,ho,hv,Instr.extract,hg i (List.getElem?_eq_some_iff.1 hd).1]
  ·rename_i cs hy
   obtain⟨d,hd,hx⟩:=Option.map_eq_some_iff.1 he
   obtain⟨rfl,rfl⟩:=Prod.mk.inj hx
   have e1:=hE _ _ hy
   generalize hv:a.eval y=v at e1
   cases e1 with
   |gG _ vs g hn hg hr=>
    refine⟨g i,hr i d hd,fun w' _=>?_⟩
    simp[execOp,ho,hv,Instr.extract,hg i (List.getElem?_eq_some_iff.1 hd).1]
  ·cases he
 case call c=>
  obtain⟨callee,args,ts⟩:=c
  obtain⟨args⟩:=args
  obtain⟨ts⟩:=ts
  simp only at he
  split at he
  ·split at he
   ·exact Kv r hE (ty:=0) ho he hp
   ·cases he
  ·split at he
   ·exact Kw r hE ho he hp
   ·cases he
  ·split at he
   ·exact Ky r hE ho he hp
   ·cases he
  ·split at he
   ·exact Kz r hE ho he hp
   ·cases he
  ·cases he
end
end Go.Lw
