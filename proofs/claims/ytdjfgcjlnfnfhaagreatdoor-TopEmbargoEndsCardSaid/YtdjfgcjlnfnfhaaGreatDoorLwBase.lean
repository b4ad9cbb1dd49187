/- LIST-LEVEL STATES: values as data ('D'), slots and objects of a running function ('V', 'O', 'St'), and what it means that a frame and a world hold them ('Rep'). -/
import Derived.WalkKit
import Derived.Test.YtdjfgcjlnfnfhaaGreatDoorAb
set_option linter.unusedSimpArgs false
set_option linter.unusedVariables false
namespace Go.Lw
inductive Key where
 |s (l:List UInt8)
 |i (n:Int)
 |ii (a b:Int)
deriving DecidableEq
def Key.kd:Key→Nat
 | .s _=>0
 | .i _=>1
 | .ii _ _=>2
def Key.val:Key→Value
 | .s l=> .string ⟨⟨l⟩⟩
 | .i n=> .int .i64 n
 | .ii a b=> .agg #[.int .i64 a,.int .i64 b]
inductive D where
 |lit (v:Value)
 |agg (cs:List D)
 |tup (cs:List D)
 |sl (n:Nat) (f:Nat→List D)
 |ip (cs:List D) (off:Nat)
 |clo (fn:Fn) (caps:List D)
 |mp (kd:Nat) (ks:List Key) (f:Nat→D)
inductive V where
 |d (x:D)
 |bp (id off:Nat)
 |el (id i off:Nat)
 |os (id n:Nat)
 |ot (id lo n:Nat)
 |mp (id:Nat)
 |fS (cs:List V)
 |gG (cs:List V)
 |eR (fn:Fn) (caps:List V)
 |when (g:Bool) (x:V)
 |any
inductive RdD (w:World) (ok:Nat→Prop):D→Value→Prop where
 |lit (v:Value):RdD w ok (.lit v) v
 |agg (cs:List D) (vs:Array Value) (g:Nat→Value) (hn:vs.size=cs.length) (hg: ∀i,i<cs.length→vs[i]?=some (g i))
   (h: ∀i d,cs[i]?=some d→RdD w ok d (g i)):RdD w ok (.agg cs) (.agg vs)
 |tup (cs:List D) (vs:Array Value) (g:Nat→Value) (hn:vs.size=cs.length) (hg: ∀i,i<cs.length→vs[i]?=some (g i))
   (h: ∀i d,cs[i]?=some d→RdD w ok d (g i)):RdD w ok (.tup cs) (.tuple vs)
 |sl (n:Nat) (f:Nat→List D) (A:Option Addr) (cap size b off:Nat) (g:Nat→Nat→Value) (hc:n≤cap) (hm:cap≤maxLen)
   (hA:0<n→A=some ⟨b,off,none⟩∧ok b) (hl: ∀i,i<n→(f i).length=size)
   (hg: ∀i k,i<n→k<size→w.cell? ⟨b,off+i*size+k,none⟩=some (g i k))
   (h: ∀i k d,i<n→(f i)[k]?=some d→RdD w ok d (g i k)):RdD w ok (.sl n f) (.slice A n cap)
 |ip (cs:List D) (off b o:Nat) (g:Nat→Value) (hb:ok b) (hg: ∀k,k<cs.length→w.cell? ⟨b,o+k,none⟩=some (g k))
   (h: ∀k d,cs[k]?=some d→RdD w ok d (g k)):RdD w ok (.ip cs off) (.pointer (some ⟨b,o+off,none⟩))
 |clo (fn:Fn) (caps:List D) (vs:Array Value) (g:Nat→Value) (hn:vs.size=caps.length) (hg: ∀i,i<caps.length→vs[i]?=some (g i))
   (h: ∀i d,caps[i]?=some d→RdD w ok d (g i)):RdD w ok (.clo fn caps) (.func fn #[] vs)
 |mp (kd:Nat) (ks:List Key) (f:Nat→D) (b nx:Nat) (es:Array MapEntry) (g:Nat→Value) (hb:ok b) (hw:w.heap[b]?=some (.map es nx)) (hn:es.size=ks.length)
   (hg: ∀(i:Nat) (k:Key),ks[i]?=some k→k.kd=kd∧es[i]?=some ⟨k.val,g i,i⟩) (h: ∀i,i<ks.length→RdD w ok (f i) (g i)):RdD w ok (.mp kd ks f) (.map (some b))
theorem fT {w w':World} {b o:Nat} (h:w'.heap[b]?=w.heap[b]?):w'.cell? ⟨b,o,none⟩=w.cell? ⟨b,o,none⟩:=by
 simp[World.cell?,h]
theorem RdD.mono {w w':World} {ok ok':Nat→Prop} (hw: ∀b,ok b→w'.heap[b]?=w.heap[b]?) (ho: ∀b,ok b→ok' b) {d:D} {v:Value}
 (h:RdD w ok d v):RdD w' ok' d v:=by
 induction h with
 |lit v=>exact .lit v
 |agg cs vs g hn hg _ ih=>exact .agg cs vs g hn hg ih
 |tup cs vs g hn hg _ ih=>exact .tup cs vs g hn hg ih
 |sl n f A cap size b off g hc hm hA hl hg _ ih=>
  refine .sl n f A cap size b off g hc hm (fun h=>⟨(hA h).1,ho _ (hA h).2⟩) hl (fun i k hi hk=>?_) ih
  rw[fT (hw b (hA qD).2)]
  exact hg i k hi hk
 |ip cs off b o g hb hg _ ih=>exact .ip cs off b o g (ho _ hb) (fun k hk=>by rw[fT (hw b hb)];exact hg k hk) ih
 |clo fn caps vs g hn hg _ ih=>exact .clo fn caps vs g hn hg ih
 |mp kd ks f b nx es g hb hm hn hg _ ih=>exact .mp kd ks f b nx es g (ho b hb) (by rw[hw b hb];exact hm) hn hg ih
inductive Flat:D→Prop where
 |lit (v:Value):Flat (.lit v)
 |agg (cs:List D) (h: ∀d∈cs,Flat d):Flat (.agg cs)
 |tup (cs:List D) (h: ∀d∈cs,Flat d):Flat (.tup cs)
theorem RdD.flat {w w':World} {ok ok':Nat→Prop} {d:D} {v:Value} (hf:Flat d) (h:RdD w ok d v):RdD w' ok' d v:=by
 induction hf generalizing v with
 |lit _=>cases h;exact .lit _
 |agg cs _ ih=>cases h with|agg _ vs g hn hg h=>exact .agg cs vs g hn hg fun i d hd=>ih d (List.mem_of_getElem? hd) (h i d hd)
 |tup cs _ ih=>cases h with|tup _ vs g hn hg h=>exact .tup cs vs g hn hg fun i d hd=>ih d (List.mem_of_getElem? hd) (h i d hd)
structure Hd where
 blk:Option Nat
 cap:Nat
 sz:Nat
def Hd.addr (h:Hd):Option Addr:=h.blk.map fun b=>⟨b,0,none⟩
def Hd.sub (h:Hd) (lo:Nat):Option Addr:=if h.cap=lo then h.addr else h.blk.map fun b=>⟨b,lo*h.sz,none⟩
inductive RdV (w:World) (ok:Nat→Prop) (h:Nat→Hd):V→Value→Prop where
 |d (x:D) (v:Value) (hx:RdD w ok x v):RdV w ok h (.d x) v
 |any (v:Value):RdV w ok h .any v
 |bp (id off b:Nat) (hb:(h id).blk=some b):RdV w ok h (.bp id off) (.pointer (some ⟨b,off,none⟩))
 |el (id i off b:Nat) (hb:(h id).blk=some b):RdV w ok h (.el id i off) (.pointer (some ⟨b,i*(h id).sz+off,none⟩))
 |os (id n:Nat) (hc:n≤(h id).cap):RdV w ok h (.os id n) (.slice (h id).addr n (h id).cap)
 |ot (id lo n:Nat) (hc:lo+n≤(h id).cap):RdV w ok h (.ot id lo n) (.slice ((h id).sub lo) n ((h id).cap-lo))
 |mp (id b:Nat) (hb:(h id).blk=some b):RdV w ok h (.mp id) (.map (some b))
 |fS (cs:List V) (vs:Array Value) (g:Nat→Value) (hn:vs.size=cs.length) (hg: ∀i,i<cs.length→vs[i]?=some (g i))
   (hx: ∀i x,cs[i]?=some x→RdV w ok h x (g i)):RdV w ok h (.fS cs) (.agg vs)
 |gG (cs:List V) (vs:Array Value) (g:Nat→Value) (hn:vs.size=cs.length) (hg: ∀i,i<cs.length→vs[i]?=some (g i))
   (hx: ∀i x,cs[i]?=some x→RdV w ok h x (g i)):RdV w ok h (.gG cs) (.tuple vs)
 |eR (fn:Fn) (caps:List V) (vs:Array Value) (g:Nat→Value) (hn:vs.size=caps.length) (hg: ∀i,i<caps.length→vs[i]?=some (g i))
   (hx: ∀i x,caps[i]?=some x→RdV w ok h x (g i)):RdV w ok h (.eR fn caps) (.func fn #[] vs)
 |when (g:Bool) (x:V) (v:Value) (ht:g=true→RdV w ok h x v) (hf:g=false→v=undef):RdV w ok h (.when g x) v
theorem RdV.mono {w w':World} {ok ok':Nat→Prop} {h:Nat→Hd} (hw: ∀b,ok b→w'.heap[b]?=w.heap[b]?) (ho: ∀b,ok b→ok' b) {x:V} {v:Value}
 (hx:RdV w ok h x v):RdV w' ok' h x v:=by
 induction hx with
 |d x v hx=>exact .d x v (hx.mono hw ho)
 |any v=>exact .any v
 |bp id off b hb=>exact .bp id off b hb
 |el id i off b hb=>exact .el id i off b hb
 |os id n hc=>exact .os id n hc
 |ot id lo n hc=>exact .ot id lo n hc
 |mp id b hb=>exact .mp id b hb
 |fS cs vs g hn hg _ ih=>exact .fS cs vs g hn hg ih
 |gG cs vs g hn hg _ ih=>exact .gG cs vs g hn hg ih
 |eR fn caps vs g hn hg _ ih=>exact .eR fn caps vs g hn hg ih
 |when g x v _ hf ih=>exact .when g x v ih hf
mutual
def bU (id:Nat):V→Bool
 | .bp j _=>j==id
 | .el j _ _=>j==id
 | .os j _=>j==id
 | .ot j _ _=>j==id
 | .mp j=>j==id
 | .fS cs=>gH id cs
 | .gG cs=>gH id cs
 | .eR _ cs=>gH id cs
 | .when _ x=>bU id x
 | .d _| .any=>false
def gH (id:Nat):List V→Bool
 |[]=>false
 |x::r=>bU id x||gH id r
end
theorem iW {id:Nat} {cs:List V} (h:gH id cs=false): ∀x∈cs,bU id x=false:=by
 induction cs with
 |nil=>intro x hx;cases hx
 |cons y r ih=>
  simp only[gH,Bool.or_eq_false_iff]at h
  intro x hx
  cases hx with
  |head=>exact h.1
  |tail _ hx=>exact ih h.2 x hx
theorem RdV.agree {w:World} {ok:Nat→Prop} {h h':Nat→Hd} {x:V} {v:Value} (hx:RdV w ok h x v) (hh: ∀j,bU j x=true→h' j=h j):RdV w ok h' x v:=by
 have mem: ∀{j:Nat} {cs:List V} {i:Nat} {x:V},cs[i]?=some x→bU j x=true→gH j cs=true:=by
  intro j cs i x hi hs
  cases hc:gH j cs with
  |true=>rfl
  |false=>rw[iW hc x (List.mem_of_getElem? hi)]at hs;cases hs
 induction hx with
 |d x v hx=>exact .d x v hx
 |any v=>exact .any v
 |bp j off b hb=>exact .bp j off b (by rw[hh j (by simp[bU])];exact hb)
 |el j i off b hb=>
  have e:=hh j (by simp[bU])
  rw[←e]
  exact .el j i off b (by rw[e];exact hb)
 |os j n hc=>
  have e:=hh j (by simp[bU])
  rw[←e]at hc⊢
  exact .os j n hc
 |ot j lo n hc=>
  have e:=hh j (by simp[bU])
  rw[←e]at hc⊢
  exact .ot j lo n hc
 |mp j b hb=>exact .mp j b (by rw[hh j (by simp[bU])];exact hb)
 |fS cs vs g hn hg _ ih=>exact .fS cs vs g hn hg fun i x hx=>ih i x hx fun j hj=>hh j qaO
 |gG cs vs g hn hg _ ih=>exact .gG cs vs g hn hg fun i x hx=>ih i x hx fun j hj=>hh j qaO
 |eR fn caps vs g hn hg _ ih=>exact .eR fn caps vs g hn hg fun i x hx=>ih i x hx fun j hj=>hh j qaO
 |when g x v _ hf ih=>exact .when g x v (fun e=>ih e fun j hj=>hh j qaK) hf
theorem RdV.swap {w:World} {ok:Nat→Prop} {h h':Nat→Hd} {id:Nat} (hh: ∀j,j≠id→h' j=h j) {x:V} {v:Value}
 (hx:RdV w ok h x v) (hs:bU id x=false):RdV w ok h' x v:=by
 induction hx with
 |d x v hx=>exact .d x v hx
 |any v=>exact .any v
 |bp j off b hb=>exact .bp j off b (by rw[hh j QY];exact hb)
 |el j i off b hb=>
  have e:=hh j QY
  rw[←e]
  exact .el j i off b (by rw[e];exact hb)
 |os j n hc=>
  have e:=hh j QY
  rw[←e]at hc⊢
  exact .os j n hc
 |ot j lo n hc=>
  have e:=hh j QY
  rw[←e]at hc⊢
  exact .ot j lo n hc
 |mp j b hb=>exact .mp j b (by rw[hh j QY];exact hb)
 |fS cs vs g hn hg _ ih=>
  simp only[bU]at hs
  exact .fS cs vs g hn hg fun i x hx=>ih i x hx (iW hs x (List.mem_of_getElem? hx))
 |gG cs vs g hn hg _ ih=>
  simp only[bU]at hs
  exact .gG cs vs g hn hg fun i x hx=>ih i x hx (iW hs x (List.mem_of_getElem? hx))
 |eR fn caps vs g hn hg _ ih=>
  simp only[bU]at hs
  exact .eR fn caps vs g hn hg fun i x hx=>ih i x hx (iW hs x (List.mem_of_getElem? hx))
 |when g x v _ hf ih=>exact .when g x v (fun e=>ih e QY) hf
inductive O where
 |raw (ob:Obj)
 |cB (kd:Nat) (L:List (Key×D))
 |cD (x:V) (v:Value)
 |box (t:TypeId) (cells:List V)
 |own (e:TypeId) (sz:Nat) (grow:Bool×List D) (es:List (List D))
def Mk (fz:Nat×Nat) (n:Nat):Prop:= ∀o,o<n→ ¬(fz.1≤o∧o<fz.2)
def RdO (w:World) (ok:Nat→Prop) (h:Nat→Hd) (id:Nat):O→Prop
 | .box t cells=> ∃(b:Nat) (cs:Array Value),(h id).blk=some b∧w.heap[b]?=some (.cells cs t (0,0))∧cs.size=cells.length∧
     ∀(k:Nat) (x:V),cells[k]?=some x→ ∃v,cs[k]?=some v∧RdV w ok h x v
 | .raw ob=> ∃b:Nat,(h id).blk=some b∧w.heap[b]?=some ob
 | .cB kd L=> ∃(b:Nat) (es:Array MapEntry),(h id).blk=some b∧w.heap[b]?=some (.map es L.length)∧es.size=L.length∧
     ∀(i:Nat) (k:Key) (d:D),L[i]?=some (k,d)→k.kd=kd∧ ∃v,es[i]?=some ⟨k.val,v,i⟩∧RdD w ok d v
 | .cD x v=>(h id).blk=none∧RdV w ok h x v
 | .own e sz grow es=>(h id).sz=sz∧(h id).cap≤maxLen∧(((h id).blk=none∧es=[]∧(h id).cap=0)∨
     ∃(b:Nat) (cur:Array Value) (fz:Nat×Nat),(h id).blk=some b∧w.heap[b]?=some (.cells cur e fz)∧Mk fz cur.size∧(grow.1=true→fz=(0,0))∧es.length≤(h id).cap∧cur.size=(h id).cap*sz∧
      ∀(i:Nat) (l:List D),es[i]?=some l→l.length=sz∧ ∀(k:Nat) (d:D),l[k]?=some d→ ∃v,cur[i*sz+k]?=some v∧RdD w ok d v)
theorem RdO.mono {w w':World} {ok ok':Nat→Prop} {h:Nat→Hd} {id:Nat} {o:O} (hw: ∀b,ok b→w'.heap[b]?=w.heap[b]?) (ho: ∀b,ok b→ok' b)
 (hb: ∀b,(h id).blk=some b→w'.heap[b]?=w.heap[b]?) (hx:RdO w ok h id o):RdO w' ok' h id o:=by
 cases o with
 |box t cells=>
  obtain⟨b,cs,h1,h2,h3,h4⟩:=hx
  exact⟨b,cs,h1,qaR,h3,fun k x hk=>let⟨v,hv,hr⟩:=h4 k x hk;⟨v,hv,hr.mono hw ho⟩⟩
 |raw ob=>
  obtain⟨b,h1,h2⟩:=hx
  exact⟨b,h1,qaR⟩
 |cB kd L=>
  obtain⟨b,es,h1,h2,h3,h4⟩:=hx
  exact⟨b,es,h1,qaR,h3,fun i k d hi=>let⟨hk,v,hv,hr⟩:=h4 i k d hi;⟨hk,v,hv,hr.mono hw ho⟩⟩
 |cD x v=>exact⟨hx.1,hx.2.mono hw ho⟩
 |own e sz grow es=>
  obtain⟨h0,hm,hx⟩:=hx
  refine⟨h0,hm,?_⟩
  rcases hx with hx|⟨b,cur,fz,h1,h2,h3,h3',h4,h5,h6⟩
  ·exact .inl hx
  ·exact .inr ⟨b,cur,fz,h1,qaR,h3,h3',h4,h5,fun i l hi=>⟨(h6 i l hi).1,fun k d hk=>let⟨v,hv,hr⟩:=(h6 i l hi).2 k d hk;⟨v,hv,hr.mono hw ho⟩⟩⟩
def O.bU (id:Nat):O→Bool
 | .box _ cells=>gH id cells
 | .cD x _=>Go.Lw.bU id x
 | .own .. | .raw _| .cB .. =>false
theorem RdO.swap {w:World} {ok:Nat→Prop} {h h':Nat→Hd} {id j:Nat} (hh: ∀j,j≠id→h' j=h j) (hj:j≠id) {o:O}
 (hx:RdO w ok h j o) (hs:o.bU id=false):RdO w ok h' j o:=by
 cases o with
 |box t cells=>
  obtain⟨b,cs,h1,h2,h3,h4⟩:=hx
  exact⟨b,cs,by rw[hh j hj];exact h1,h2,h3,fun k x hk=>let⟨v,hv,hr⟩:=h4 k x hk;⟨v,hv,hr.swap hh (iW hs x (List.mem_of_getElem? hk))⟩⟩
 |raw ob=>
  unfold RdO at hx⊢
  rw[hh j hj]
  exact hx
 |cB kd L=>
  unfold RdO at hx⊢
  rw[hh j hj]
  exact hx
 |cD x v=>exact⟨by rw[hh j hj];exact hx.1,hx.2.swap hh hs⟩
 |own e sz grow es=>
  unfold RdO at hx⊢
  rw[hh j hj]
  exact hx
def look {α:Type} (i:Nat):List (Nat×α)→Option α
 |[]=>none
 |(j,x)::r=>if j=i then some x else look i r
def place {α:Type} (i:Nat) (x:α):List (Nat×α)→List (Nat×α)
 |[]=>[(i,x)]
 |(j,y)::r=>if j=i then(i,x)::r else(j,y)::place i x r
def nB {α:Type} (i:Nat):List (Nat×α)→List (Nat×α)
 |[]=>[]
 |(j,y)::r=>if j=i then nB i r else(j,y)::nB i r
theorem a8 {α:Type} (i j:Nat) (x:α) (l:List (Nat×α)):look j (place i x l)=if i=j then some x else look j l:=by
 induction l with
 |nil=>simp[place,look]
 |cons y r ih=>
  obtain⟨k,y⟩:=y
  simp only[place]
  split
  ·subst_vars
   simp only[look]
   split<;>rfl
  ·simp only[look,ih]
   split
   ·rename_i h1 h2
    subst h2
    rw[if_neg (fun h=>h1 h.symm)]
   ·rfl
theorem wZ {α:Type} (i j:Nat) (l:List (Nat×α)):look j (nB i l)=if i=j then none else look j l:=by
 induction l with
 |nil=>simp[nB,look]
 |cons y r ih=>
  obtain⟨k,y⟩:=y
  simp only[nB]
  split
  ·subst_vars
   rw[ih]
   split
   ·rfl
   ·simp[look, *]
  ·simp only[look,ih]
   split
   ·rename_i h1 h2
    subst h2
    rw[if_neg (fun h=>h1 h.symm)]
   ·rfl
mutual
def flat:D→Bool
 | .lit _=>true
 | .agg cs| .tup cs=>EC cs
 |_=>false
def EC:List D→Bool
 |[]=>true
 |x::r=>flat x&&EC r
end
mutual
theorem pW: ∀{d:D},flat d=true→Flat d
 | .lit v,_=> .lit v
 | .agg cs,h=> .agg cs (zD (by simpa[flat]using h))
 | .tup cs,h=> .tup cs (zD (by simpa[flat]using h))
theorem zD: ∀{cs:List D},EC cs=true→ ∀d∈cs,Flat d
 |[],_=>fun d hd=>by cases hd
 |x::r,h=>by
  simp only[EC,Bool.and_eq_true]at h
  intro d hd
  cases hd with
  |head=>exact pW h.1
  |tail _ hd=>exact zD h.2 d hd
end
structure St where
 aO:List (Nat×V)
 aD:List (Nat×O)
structure Ctx where
 P:Program
 w0:World
 ok0:Nat→Prop
 nt:Nat
 h0:Nat→Hd
 R2:List (Nat×O)
def Ctx.nC (C:Ctx) (id b:Nat):Prop:= ∃o,look id C.R2=some o∧(C.h0 id).blk=some b
def Ctx.zE (C:Ctx) (b:Nat):Prop:= ∃id,C.nC id b
structure Mem (C:Ctx) (ok:Nat→Prop) (h:Nat→Hd) (aD:List (Nat×O)) (w:World):Prop where
 os:w.os=C.w0.os
 tape:w.tape=C.w0.tape
 output:w.output=C.w0.output
 size:C.w0.heap.size≤w.heap.size
 block: ∀k,k<C.w0.heap.size→ ¬C.zE k→w.heap[k]?=C.w0.heap[k]?
 okb: ∀k,ok k→k<w.heap.size∧ ¬C.zE k∧(C.ok0 k∨C.w0.heap.size≤k)
 obj: ∀id o,look id aD=some o→RdO w ok h id o
 blk: ∀id o b,look id aD=some o→(h id).blk=some b→b<w.heap.size∧ ¬ok b∧(C.w0.heap.size≤b∨C.nC id b)
 apart: ∀id id' o o' b,look id aD=some o→look id' aD=some o'→id≠id'→(h id).blk=some b→(h id').blk≠some b
structure Rep (C:Ctx) (st:St) (ok:Nat→Prop) (h:Nat→Hd) (a:Act) (w:World):Prop where
 mem:Mem C ok h st.aD w
 defers:a.defers=[]
 nt:a.tmps.size=C.nt
 pin: ∀id,100000≤id→h id=C.h0 id
 slot: ∀i x,look i st.aO=some x→i<C.nt∧ ∃v,a.tmps[i]?=some v∧RdV w ok h x v
def kZ (C:Ctx) (st:St) (a:Act) (w:World):Prop:= ∃ok h,Rep C st ok h a w
def Ul (P:Program) (w:World):Prop:= ∀g t k,(P.globals[g]?).map (·.type)=some t→P.underlying t=some (.int k)→ ∃n:Int,w.cell? ⟨g,0,none⟩=some (.int k n)
def Sv:List Int:=(List.range 20).map fun i=>((10^i:Nat):Int)
def HI (P:Program) (w:World):Prop:=
 (∀g,g<P.globals.size→P.globalNamed "strconv.ErrSyntax" =some g→ ∃te pe,w.cell? ⟨g,0,none⟩=some (.iface te pe))∧
 (∀g,g<P.globals.size→P.globalNamed "internal/strconv.uint64pow10" =some g→ ∃t fr,w.heap[g]?=some (.cells (Sv.map fun z=>Value.int .u64 z).toArray t fr))
def Std (P:Program) (w:World):Prop:=P.globals.size≤w.heap.size∧Ul P w∧HI P w
theorem Std.keep {P:Program} {w w':World} (h:Std P w) (hs:w.heap.size≤w'.heap.size) (hk: ∀k,k<P.globals.size→w'.heap[k]?=w.heap[k]?):Std P w':=by
 refine⟨Nat.le_trans h.1 hs,fun g t k hg ht=>?_,fun g hlt hg=>by rw[fT (hk g hlt)];exact h.2.2.1 g hlt hg,fun g hlt hg=>by rw[hk g hlt];exact h.2.2.2 g hlt hg⟩
 have hlt:g<P.globals.size:=by
  rcases Nat.lt_or_ge g P.globals.size with h'|h'
  ·exact h'
  ·rw[Array.getElem?_eq_none h']at hg;cases hg
 rw[fT (hk g hlt)]
 exact h.2.1 g t k hg ht
theorem Std.below {P:Program} {w w':World} (h:Std P w) (hb:RowKit.Below w.heap.size w w'):Std P w':=h.keep hb.size fun k hk=>hb.block k (Nat.lt_of_lt_of_le hk h.1)
theorem Mem.below {C:Ctx} {ok ok':Nat→Prop} {h:Nat→Hd} {aD:List (Nat×O)} {w w':World} (m:Mem C ok h aD w) (hb:RowKit.Below w.heap.size w w')
 (ho: ∀b,ok b→ok' b) (hn: ∀b,ok' b→ok b∨(w.heap.size≤b∧b<w'.heap.size)) (hl: ∀b,C.zE b→b<C.w0.heap.size):Mem C ok' h aD w':=by
 have hs:=hb.size
 refine⟨hb.os.trans m.os,hb.tape.trans m.tape,hb.output.trans m.output,Nat.le_trans m.size hs,fun k hk hl=>(hb.block k (by have:=m.size;omega)).trans (m.block k hk hl),?_,?_,?_,?_⟩
 ·intro k hk
  rcases hn k hk with h1|h1
  ·have:=m.okb k h1
   exact⟨qD,this.2⟩
  ·have:=m.size
   exact⟨h1.2,fun hx=>by have:=hl k hx;omega,.inr qD⟩
 ·intro id o hio
  exact(m.obj id o hio).mono (fun b hb'=>hb.block b (m.okb b hb').1) ho (fun b hb'=>hb.block b (m.blk id o b hio hb').1)
 ·intro id o b hio hb'
  obtain⟨h1,h2,h3⟩:=m.blk id o b hio hb'
  refine⟨qD,fun hx=>?_,h3⟩
  rcases hn b hx with h4|h4
  ·exact h2 h4
  ·omega
 ·exact m.apart
end Go.Lw
