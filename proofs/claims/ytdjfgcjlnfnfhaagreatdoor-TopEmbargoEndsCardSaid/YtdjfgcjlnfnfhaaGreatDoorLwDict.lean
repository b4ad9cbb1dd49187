/- MAPS, MADE AND WRITTEN, on list-level states. -/
import Derived.Test.YtdjfgcjlnfnfhaaGreatDoorLwApp
import Derived.Lib.AppendZeros
set_option linter.unusedSimpArgs false
set_option linter.unusedVariables false
namespace Go.Lw
open Go.RowKit
def gB:List (Key×D)→Key→D→List (Key×D)
 |[],k,d=>[(k,d)]
 |(k',d')::r,k,d=>if k'=k then(k,d)::r else(k',d')::gB r k d
def lZ (z:D) (L:List (Key×D)) (k:Key):List (Key×D):=bif fL L k then L else L++[(k,z)]
def kR:List (Key×D)→Nat→D→List (Key×D)
 |[],_,_=>[]
 |(k,_)::r,0,d=>(k,d)::r
 |p::r,i+1,d=>p::kR r i d
theorem jN: ∀(L:List (Key×D)) (i:Nat) (d:D),(kR L i d).length=L.length
 |[],_,_=>rfl
 |(k,_)::r,0,d=>rfl
 |p::r,i+1,d=>by simp[kR,jN r i d]
theorem zR: ∀(L:List (Key×D)) (i:Nat) (d:D) (j:Nat),(kR L i d)[j]?=if j=i then(L[j]?).map (fun p=>(p.1,d))else L[j]?
 |[],_,_,j=>by simp[kR]
 |(k,_)::r,0,d,j=>by
  cases j with
  |zero=>simp[kR]
  |succ j=>simp[kR]
 |p::r,i+1,d,j=>by
  cases j with
  |zero=>simp[kR]
  |succ j=>simp[kR,zR r i d j]
theorem zT: ∀{L:List (Key×D)} {k:Key} {d:D},fL L k=false→gB L k d=L++[(k,d)]
 |[],_,_,_=>rfl
 |(k',d')::r,k,d,h=>by
  simp only[fL]at h
  split at h
  ·cases h
  ·rename_i hk
   simp only[gB,if_neg hk,List.cons_append,zT h]
theorem zU: ∀{L:List (Key×D)} {k:Key} {d:D},fL L k=true→gB L k d=kR L (e8 L k) d
 |[],_,_,h=>by cases h
 |(k',d')::r,k,d,h=>by
  simp only[fL]at h
  split at h
  ·rename_i hk
   subst hk
   simp[gB,e8,kR]
  ·rename_i hk
   simp only[gB,e8,if_neg hk,kR,zU h]
theorem zV: ∀{L:List (Key×D)} {k:Key},fL L k=false→e8 L k=L.length
 |[],_,_=>rfl
 |(k',d')::r,k,h=>by
  simp only[fL]at h
  split at h
  ·cases h
  ·rename_i hk
   simp only[e8,if_neg hk,List.length_cons,zV h]
theorem Ju: ∀{L:List (Key×D)} {k:Key},fL L k=true→e8 L k<L.length
 |[],_,h=>by cases h
 |(k',d')::r,k,h=>by
  simp only[fL]at h
  split at h
  ·rename_i hk;simp[e8,hk]
  ·rename_i hk
   have:=Ju h
   simp only[e8,if_neg hk,List.length_cons]
   omega
theorem xE: ∀(L:List (Key×D)) (p:Key×D) (d:D),kR (L++[p]) L.length d=L++[(p.1,d)]
 |[],p,d=>rfl
 |q::L,p,d=>by simp[kR,xE L p d]
@[simp] theorem R3 (z:D) (L:List (Key×D)) (k:Key) (d:D):kR (lZ z L k) (e8 L k) d=gB L k d:=by
  unfold lZ
  cases h:fL L k with
  |true=>simp only[cond_true];rw[zU h]
  |false=>simp only[cond_false];rw[zT h,zV h,xE]
@[simp] theorem R4 (z:D) (L:List (Key×D)) (k:Key):e8 L k<(lZ z L k).length:=by
  unfold lZ
  cases h:fL L k with
  |true=>exact Ju h
  |false=>simp[zV h]
theorem EO (z:D): ∀(L:List (Key×D)) (k k':Key) (d:D),dT z (gB L k d) k'=if k=k' then d else dT z L k'
 |[],k,k',d=>by simp[gB,dT]
 |(k0,d0)::r,k,k',d=>by
  simp only[gB]
  by_cases h:k0=k
  ·subst h
   simp only[if_true,dT]
   split<;>rfl
  ·rw[if_neg h]
   simp only[dT,EO z r k k' d]
   by_cases h2:k0=k'
   ·rw[if_pos h2,if_neg (fun e=>h (h2.trans e.symm)),if_pos h2]
   ·simp[h2]
def B5 (P:Program) (t:TypeId):Option Nat:=if(jJ P t 0).isSome then some 0 else if(jJ P t 1).isSome then some 1 else if(jJ P t 2).isSome then some 2 else none
def OW (nt:Nat):Option Tmp→Bool
 |none=>true
 |some t=>decide (t<nt)
def OX (P:Program) (nt:Nat) (o:Oper) (st:St):Option (St×Prop):=
 match o.op,o.dst with
 | .makeMap t none,some d=>match B5 P t with
   |some kd=>if bK d st&&decide (d<nt)then some ({aO:=place d (.mp d) st.aO,aD:=place d (.cB kd []) st.aD},True)else none
   |none=>none
 | .mapUpdate t m k x,none=>match ev true st m,ev true st k,ev true st x with
   |some (.mp id),some (.d y),some (.d v)=>match look id st.aD,keyOf y with
    |some (.cB kd L),some k=>if k.kd=kd∧(jJ P t kd).isSome=true then some ({st with aD:=place id (.cB kd (gB L k v)) st.aD},True)else none
    |_,_=>none
   |_,_,_=>none
 | .mapEntry t m k,some d=>match ev true st m,ev true st k with
   |some (.mp id),some (.d y)=>match look id st.aD,keyOf y with
    |some (.cB kd L),some k=>match(jJ P t kd).bind (kO P)with
     |some z=>if k.kd=kd∧d<nt then some ({aO:=place d (.d (.tup [dT (.lit z) L k,.lit (.int .i64 (e8 L k))])) st.aO,aD:=place id (.cB kd (lZ (.lit z) L k)) st.aD},True)else none
     |none=>none
    |_,_=>none
   |_,_=>none
 | .entryStore _ m i x,none=>match ev true st m,ev true st i,ev true st x with
   |some (.mp id),some (.d (.lit (.int _ n))),some (.d v)=>match look id st.aD with
    |some (.cB kd L)=>some ({st with aD:=place id (.cB kd (kR L n.toNat v)) st.aD},0≤n∧n.toNat<L.length)
    |_=>none
   |_,_,_=>none
 | .call c,_=>match c.callee,c.args.toList,c.argTypes.toList with
   | .builtin .clear,[y],[t]=>match ev true st y,bM P t with
     |some (.ot id lo n),some (e,sz)=>match look id st.aD,aL P e with
      |some (.own e' sz' gr es),some zs=>if e'=e∧sz'=sz∧zs.length=sz∧0<sz∧zs.all (fun z=>z.oneCell')=true∧OW nt o.dst=true then
        some ({aO:=(match o.dst with|some d=>place d (.d (.tup [])) st.aO|none=>st.aO),aD:=place id (.own e sz gr (es.take lo++List.replicate n (zs.map D.lit)++es.drop (lo+n))) st.aD},lo+n≤es.length)else none
      |_,_=>none
     |_,_=>none
   | .builtin .append,[y,z],[t,tx]=>match o.dst,ev true st y,ev true st z,bM P t,bM P tx with
     |some d,some (.os id n),some (.ot id2 lo m),some (e,sz),some _=>match look id st.aD with
      |some (.own e' sz' gr es)=>if id2=id∧e'=e∧sz'=sz∧0<sz∧d<nt then
        some ({aO:=place d (.os id (n+m)) st.aO,aD:=place id (.own e sz gr (es.take n++(es.drop lo).take m++es.drop (n+m))) st.aD},lo+m≤es.length∧n+m≤es.length∧eW sz es)else none
      |_=>none
     |some d,some (.d (.lit (.slice none 0 0))),some (.d (.lit (.int _ n))),some (e,sz),none=>match P.underlying tx,cK P e,aL P e with
      |some (.int _),some b,some zs=>if zs.length=sz∧0<sz∧bK d st=true∧d<nt then
        some ({aO:=place d (.os d n.toNat) st.aO,aD:=place d (.own e sz (true,zs.map D.lit) (List.replicate n.toNat (zs.map D.lit))) st.aD},0<n∧(b:Int)*n≤281474976710656∧n≤9223372036854775807)else none
      |_,_,_=>none
     |_,_,_,_,_=>none
   |_,_,_=>none
 |_,_=>none
section
variable {C:Ctx} {st st':St} {ok:Nat→Prop} {h:Nat→Hd} {a:Act} {w w':World} {o:Oper} {x:V} {p:Prop}
theorem Rep.cB (r:Rep C st ok h a w) {id b n kd:Nat} {L L':List (Key×D)} {es es':Array MapEntry} (hl:look id st.aD=some (.cB kd L)) (hb:(h id).blk=some b) (hw:w.heap[b]?=some (.map es n))
 (hsz:es'.size=L'.length) (hrd: ∀(i:Nat) (k:Key) (d:D),L'[i]?=some (k,d)→k.kd=kd∧ ∃v,es'[i]?=some ⟨k.val,v,i⟩∧RdD w ok d v):
 Rep C {st with aD:=place id (.cB kd L') st.aD} ok h a {w with heap:=w.heap.setIfInBounds b (.map es' L'.length)}:=by
 have hlt:b<w.heap.size:=(Array.getElem?_eq_some_iff.1 hw).1
 let w':World:={w with heap:=w.heap.setIfInBounds b (.map es' L'.length)}
 have hs:w'.heap.size=w.heap.size:=by simp[w']
 have hne: ∀k,k≠b→w'.heap[k]?=w.heap[k]?:=fun k hk=>by
  simp only[w',Array.getElem?_setIfInBounds,if_neg (fun e:b=k=>hk e.symm)]
 have hat:w'.heap[b]?=some (.map es' L'.length):=by simp[w',Array.getElem?_setIfInBounds,hlt]
 have hg:w.grownBy w' (some b):=⟨rfl,rfl,rfl,qD,fun k _ hk=>hne k fun e=>hk (by rw[e])⟩
 have hokb: ∀k,ok k→w'.heap[k]?=w.heap[k]?:=fun k hk=>hne k fun e=>(r.mem.blk id _ b hl hb).2.1 (e▸hk)
 refine⟨r.mem.write hl hb hg hs ⟨b,es',hb,hat,hsz,fun i k d hi=>?_⟩,r.defers,r.nt,r.pin,fun i u hu=>?_⟩
 ·obtain⟨h0,v,h1,h2⟩:=hrd i k d hi
  exact⟨h0,v,h1,h2.mono hokb fun _ hb=>hb⟩
 ·obtain⟨h11,v,h12,h13⟩:=r.slot i u hu
  exact⟨h11,v,h12,h13.mono hokb fun _ hb=>hb⟩
theorem C9 {nt:Nat} (hnt:nt=C.nt) (hc:cS C) {t:TypeId} {d:Tmp} {kd:Nat} (ho:o.op= .makeMap t none) (hdst:o.dst=some d) (hf:bK d st=true) (hd:d<nt):
 j6 C o st {aO:=place d (.mp d) st.aO,aD:=place d (.cB kd []) st.aD} True:=by
 intro ok h a w r _
 have hid:d<100000:=Nat.lt_of_lt_of_le hd Qd
 have rn:=r.new hc.lt hid hf ⟨some w.heap.size,0,0⟩ (.cB kd []) (.map #[] 0) rfl ⟨w.heap.size,#[],Qz,by show(w.heap.push _)[w.heap.size]?=_;simp,rfl,fun i k d hi=>by simp at hi⟩
 refine⟨.value (.map (some w.heap.size)),w.alloc (.map #[] 0),ok,upd h d ⟨some w.heap.size,0,0⟩,?_,_,.inl rfl,?_⟩
 ·simp[execOp,ho,Instr.makeMap,newObj,Sem.run,Result.andThen]
 ·rw[hdst]
  exact rn.put (d:=some d) (fun u hu=>by rw[←Option.some.inj hu,←hnt];exact hd) (.mp d w.heap.size Qz)
theorem Da {kd:Nat} {L:List (Key×D)} {es:Array MapEntry} (hsz:es.size=L.length) (hrd: ∀(i:Nat) (k:Key) (d:D),L[i]?=some (k,d)→k.kd=kd∧ ∃v,es[i]?=some ⟨k.val,v,i⟩∧RdD w ok d v):nE w ok kd L es.toList:=
 ⟨by simpa using hsz,fun i k d hi=>by
   obtain⟨hk,v,hv1,hv2⟩:=hrd i k d hi
   exact⟨hk,v,i,by simpa using hv1,hv2⟩⟩
theorem B6 {L:List (Key×D)} {es:Array MapEntry} {s:Key} {d:D} {u:Value} (hsz:es.size=L.length) (hrd: ∀(i:Nat) (k:Key) (d:D),L[i]?=some (k,d)→k.kd=s.kd∧ ∃v,es[i]?=some ⟨k.val,v,i⟩∧RdD w ok d v) (hu:RdD w ok d u):
 (es.push {key:=s.val,val:=u,born:=L.length}).size=(L++[(s,d)]).length∧ ∀(i:Nat) (k:Key) (d':D),(L++[(s,d)])[i]?=some (k,d')→k.kd=s.kd∧ ∃v,(es.push {key:=s.val,val:=u,born:=L.length})[i]?=some ⟨k.val,v,i⟩∧RdD w ok d' v:=by
 refine⟨by simp[hsz],fun i k d' hi=>?_⟩
 rw[Array.getElem?_push,hsz]
 by_cases h1:i<L.length
 ·rw[List.getElem?_append_left h1]at hi
  rw[if_neg qD]
  exact hrd i k d' hi
 ·rw[List.getElem?_append_right qD]at hi
  have h2:i-L.length=0:=by
   rcases Nat.eq_zero_or_pos (i-L.length)with h|h
   ·exact h
   ·rw[List.getElem?_eq_none qH]at hi;cases hi
  rw[h2]at hi
  cases hi
  have h3:i=L.length:=by omega
  subst h3
  rw[if_pos rfl]
  exact⟨rfl,u,rfl,hu⟩
theorem EP {L:List (Key×D)} {es:Array MapEntry} {s:Key} {j:Nat} {d d0:D} {u:Value} (hsz:es.size=L.length) (hrd: ∀(i:Nat) (k:Key) (d:D),L[i]?=some (k,d)→k.kd=s.kd∧ ∃v,es[i]?=some ⟨k.val,v,i⟩∧RdD w ok d v) (hj:L[j]?=some (s,d0)) (hu:RdD w ok d u):
 (es.modify j fun e=>{e with key:=s.val,val:=u}).size=(kR L j d).length∧ ∀(i:Nat) (k:Key) (d':D),(kR L j d)[i]?=some (k,d')→k.kd=s.kd∧ ∃v,(es.modify j fun e=>{e with key:=s.val,val:=u})[i]?=some ⟨k.val,v,i⟩∧RdD w ok d' v:=by
 refine⟨by simp[hsz,jN],fun i k d' hi=>?_⟩
 rw[zR]at hi
 rw[Array.getElem?_modify]
 by_cases h1:i=j
 ·subst h1
  rw[if_pos rfl,hj]at hi
  cases hi
  obtain⟨h0,v,h2,h3⟩:=hrd i _ _ hj
  rw[if_pos rfl,h2]
  exact⟨rfl,u,rfl,hu⟩
 ·rw[if_neg h1]at hi
  rw[if_neg (Ne.symm h1)]
  exact hrd i k d' hi
theorem tH (k:Key):Instr.sameBits 10000 k.val k.val=true:=by
 cases k with
 |s l=>
  show((⟨⟨l⟩⟩:ByteArray)==⟨⟨l⟩⟩)=true
  show((⟨l⟩:Array UInt8)==⟨l⟩)=true
  simp
 |i n=>simp[Key.val,Instr.sameBits]
 |ii a b=>simp[Key.val,Instr.sameBits]
theorem zW {t:TypeId} {m k z:Operand} {id:Nat} {x:D} {s:Key} {v:D} {L:List (Key×D)} (ho:o.op= .mapUpdate t m k z) (hdst:o.dst=none) (hm:ev true st m=some (.mp id)) (hk:ev true st k=some (.d x)) (hs:keyOf x=some s) (hz:ev true st z=some (.d v))
 (hl:look id st.aD=some (.cB s.kd L)) (he:(jJ C.P t s.kd).isSome=true):j6 C o st {st with aD:=place id (.cB s.kd (gB L s v)) st.aD} True:=by
 intro ok h a w r _
 obtain⟨e,he⟩:=Option.isSome_iff_exists.1 he
 obtain⟨kt,hu,hkt⟩:=sB he
 have e1:=aT rfl r hm
 have e2:=aT rfl r hk
 have e3:=aT rfl r hz
 generalize hv:a.eval m=vm at e1
 generalize hvz:a.eval z=vz at e3
 cases e3 with
 |d _ _ e3=>
 cases e2 with
 |d _ _ e2=>
 replace e2:=pY hs e2
 cases e1 with
 |mp _ b hb=>
  obtain⟨b',es,h3,h4,h5,h6⟩:=r.mem.obj id _ hl
  obtain rfl:b'=b:=Option.some.inj (h3.symm.trans hb)
  have hlt:b'<w.heap.size:=(Array.getElem?_eq_some_iff.1 h4).1
  have hnf:=vJ hkt (Da h5 h6) w
  rcases yW s (Da h5 h6) (.lit undef)with⟨g1,g2,g3⟩|⟨g1,g2,u,bn,g5,g6,g7⟩
  ·obtain⟨k1,k2⟩:=B6 (s:=s) h5 h6 e3
   rw[zT g1]
   refine⟨.skip,{w with heap:=w.heap.setIfInBounds b' (.map (es.push {key:=s.val,val:=vz,born:=L.length}) (L++[(s,v)]).length)},ok,h,?_,undef,.inr ⟨rfl,rfl⟩,?_⟩
   rotate_left
   ·rw[hdst]
    exact r.cB hl h3 h4 k1 k2
   ·simp[execOp,ho,hv,e2,hvz,Instr.mapUpdate,run_underlying hu,getObj,setObj,Sem.run,h4,run_checkKey hkt,hnf,g1,Result.andThen]
  ·obtain⟨k1,k2⟩:=EP (s:=s) h5 h6 g5 e3
   rw[zU g1]
   refine⟨.skip,{w with heap:=w.heap.setIfInBounds b' (.map (es.modify (e8 L s) fun e=>{e with key:=s.val,val:=vz}) (kR L (e8 L s) v).length)},ok,h,?_,undef,.inr ⟨rfl,rfl⟩,?_⟩
   rotate_left
   ·rw[hdst]
    exact r.cB hl h3 h4 k1 k2
   ·have g6':es[e8 L s]?=some ⟨s.val,u,bn⟩:=by simpa using g6
    simp[execOp,ho,hv,e2,hvz,Instr.mapUpdate,run_underlying hu,getObj,setObj,Sem.run,h4,run_checkKey hkt,hnf,g1,g6',Instr.keyThatStays,tH,Result.andThen,jN]
theorem Bv {nt:Nat} (hnt:nt=C.nt) {t:TypeId} {m k:Operand} {id:Nat} {d:Tmp} {x:D} {s:Key} {z:Value} {L:List (Key×D)} (ho:o.op= .mapEntry t m k) (hdst:o.dst=some d) (hm:ev true st m=some (.mp id)) (hk:ev true st k=some (.d x)) (hs:keyOf x=some s)
 (hl:look id st.aD=some (.cB s.kd L)) (he:(jJ C.P t s.kd).bind (kO C.P)=some z) (hd:d<nt):
 j6 C o st {aO:=place d (.d (.tup [dT (.lit z) L s,.lit (.int .i64 (e8 L s))])) st.aO,aD:=place id (.cB s.kd (lZ (.lit z) L s)) st.aD} True:=by
 intro ok h a w r _
 obtain⟨e,he1,he2⟩:=Option.bind_eq_some_iff.1 he
 obtain⟨kt,hu,hkt⟩:=sB he1
 have e1:=aT rfl r hm
 have e2:=aT rfl r hk
 generalize hv:a.eval m=vm at e1
 have two: ∀{w1:World} {d1:D} {u1:Value} {n:Int},RdD w1 ok d1 u1→RdV w1 ok h (.d (.tup [d1,.lit (.int .i64 n)])) (.tuple #[u1,.int .i64 n]):=fun{w1 d1 u1 n} h1=> .d _ _ (.tup _ _ (fun i=>(#[u1,.int .i64 n])[i]?.getD undef) rfl (fun i hi=>by
  match i,hi with
  |0,_=>rfl
  |1,_=>rfl) (fun i d hd=>by
  match i,hd with
  |0,hd=>cases hd;exact h1
  |1,hd=>cases hd;exact .lit _))
 cases e2 with
 |d _ _ e2=>
 replace e2:=pY hs e2
 cases e1 with
 |mp _ b hb=>
  obtain⟨b',es,h3,h4,h5,h6⟩:=r.mem.obj id _ hl
  obtain rfl:b'=b:=Option.some.inj (h3.symm.trans hb)
  have hlt:b'<w.heap.size:=(Array.getElem?_eq_some_iff.1 h4).1
  have hnf:=vJ hkt (Da h5 h6) w
  rcases yW s (Da h5 h6) (.lit z)with⟨g1,g2,g3⟩|⟨g1,g2,u,bn,g5,g6,g4⟩
  ·obtain⟨k1,k2⟩:=B6 (s:=s) h5 h6 (.lit z)
   have hq:lZ (.lit z) L s=L++[(s,.lit z)]:=by unfold lZ;rw[g1];rfl
   rw[g2,g3,hq]
   refine⟨.value (.tuple #[z,.int .i64 L.length]),{w with heap:=w.heap.setIfInBounds b' (.map (es.push {key:=s.val,val:=z,born:=L.length}) (L++[(s,D.lit z)]).length)},ok,h,?_,_,.inl rfl,?_⟩
   rotate_left
   ·rw[hdst]
    exact(r.cB hl h3 h4 k1 k2).put (d:=some d) (fun u hu=>by rw[←Option.some.inj hu,←hnt];exact hd) (two (.lit z))
   ·simp[execOp,ho,hv,e2,Instr.mapEntry,run_underlying hu,getObj,setObj,Sem.run,h4,run_checkKey hkt,hnf,g1,xA he2 w,Result.andThen,goInt]
  ·have hq:lZ (.lit z) L s=L:=by unfold lZ;rw[g1];rfl
   have g6':es[e8 L s]?=some ⟨s.val,u,bn⟩:=by simpa using g6
   obtain⟨_,v1,k3,k4⟩:=h6 _ _ _ g5
   rw[g6']at k3
   have hbn:bn=e8 L s:=by cases k3;rfl
   subst hbn
   have hes:es.modify (e8 L s) (fun e=>{e with key:=s.val})=es:=by
    apply Array.ext_getElem?
    intro i
    rw[Array.getElem?_modify]
    split
    ·rename_i e;subst e;rw[g6'];rfl
    ·rfl
   have hww:{w with heap:=w.heap.setIfInBounds b' (.map es L.length)}=w:=by
    have hh:w.heap.setIfInBounds b' (.map es L.length)=w.heap:=by
     apply Array.ext_getElem?
     intro i
     rw[Array.getElem?_setIfInBounds]
     split
     ·rename_i e;subst e;exact h4.symm
     ·rfl
    rw[hh]
   have r2:=r.cB hl h3 h4 h5 h6
   rw[hww]at r2
   rw[hq]
   refine⟨.value (.tuple #[u,.int .i64 (e8 L s)]),w,ok,h,?_,_,.inl rfl,?_⟩
   ·simp[execOp,ho,hv,e2,Instr.mapEntry,run_underlying hu,getObj,setObj,Sem.run,h4,run_checkKey hkt,hnf,g1,g6',Instr.keyThatStays,tH,Result.andThen,goInt,hes,hww]
   ·rw[hdst]
    exact r2.put (d:=some d) (fun u hu=>by rw[←Option.some.inj hu,←hnt];exact hd) (two g4)
theorem find_born {kd:Nat} {L:List (Key×D)} {es:Array MapEntry} (hsz:es.size=L.length) (hrd: ∀(i:Nat) (k:Key) (d:D),L[i]?=some (k,d)→k.kd=kd∧ ∃v,es[i]?=some ⟨k.val,v,i⟩∧RdD w ok d v) {n:Int} (h0:0≤n) (hn:n.toNat<L.length):
 es.findIdx? (fun e=>(e.born:Int)==n)=some n.toNat:=by
 have at_: ∀i,i<es.size→ ∃k v,es[i]?=some ⟨k,v,i⟩:=fun i hi=>by
  obtain⟨_,v,h1,_⟩:=hrd i _ _ (List.getElem?_eq_getElem qD)
  exact⟨_,v,h1⟩
 rw[Array.findIdx?_eq_some_iff_getElem]
 refine⟨qD,?_,fun j hj=>?_⟩
 ·obtain⟨k,v,h1⟩:=at_ n.toNat qD
  rw[Array.getElem?_eq_getElem qD]at h1
  rw[Option.some.inj h1]
  simp
  omega
 ·obtain⟨k,v,h1⟩:=at_ j qD
  rw[Array.getElem?_eq_getElem qD]at h1
  rw[Option.some.inj h1]
  simp
  omega
theorem yK {t:TypeId} {m i z:Operand} {id kd:Nat} {kn:IntKind} {n:Int} {v:D} {L:List (Key×D)} (ho:o.op= .entryStore t m i z) (hdst:o.dst=none) (hm:ev true st m=some (.mp id)) (hi:ev true st i=some (.d (.lit (.int kn n)))) (hz:ev true st z=some (.d v))
 (hl:look id st.aD=some (.cB kd L)):j6 C o st {st with aD:=place id (.cB kd (kR L n.toNat v)) st.aD} (0≤n∧n.toNat<L.length):=by
 intro ok h a w r ⟨h0,hn⟩
 have e1:=aT rfl r hm
 have e2:=aX (aT rfl r hi)
 have e3:=aT rfl r hz
 generalize hv:a.eval m=vm at e1
 generalize hvz:a.eval z=vz at e3
 cases e3 with
 |d _ _ e3=>
 cases e1 with
 |mp _ b hb=>
  obtain⟨b',es,h3,h4,h5,h6⟩:=r.mem.obj id _ hl
  obtain rfl:b'=b:=Option.some.inj (h3.symm.trans hb)
  have hlt:b'<w.heap.size:=(Array.getElem?_eq_some_iff.1 h4).1
  have hf:=find_born h5 h6 h0 hn
  have k2:(es.modify n.toNat fun e=>{e with val:=vz}).size=(kR L n.toNat v).length∧ ∀(i:Nat) (k:Key) (d':D),(kR L n.toNat v)[i]?=some (k,d')→k.kd=kd∧ ∃v,(es.modify n.toNat fun e=>{e with val:=vz})[i]?=some ⟨k.val,v,i⟩∧RdD w ok d' v:=by
   refine⟨by simp[h5,jN],fun i k d' hi=>?_⟩
   rw[zR]at hi
   rw[Array.getElem?_modify]
   by_cases h1:i=n.toNat
   ·subst h1
    rw[if_pos rfl,List.getElem?_eq_getElem hn]at hi
    cases hi
    obtain⟨h0,u,h2,h3⟩:=h6 n.toNat _ _ (List.getElem?_eq_getElem hn)
    rw[if_pos rfl,h2]
    exact⟨h0,vz,rfl,e3⟩
   ·rw[if_neg h1]at hi
    rw[if_neg (Ne.symm h1)]
    exact h6 i k d' hi
  refine⟨.skip,{w with heap:=w.heap.setIfInBounds b' (.map (es.modify n.toNat fun e=>{e with val:=vz}) (kR L n.toNat v).length)},ok,h,?_,undef,.inr ⟨rfl,rfl⟩,?_⟩
  rotate_left
  ·rw[hdst]
   exact r.cB hl h3 h4 k2.1 k2.2
  ·simp[execOp,ho,hv,e2,hvz,Instr.entryStore,getObj,setObj,Sem.run,h4,asInt,asIntOf,hf,Result.andThen,jN]
theorem HX {nt:Nat} (hnt:nt=C.nt) {t e sz lo n id:Nat} {zs:List Value} {y:Operand} {gr:Bool×List D} {es:List (List D)} (ho:o.op= .call {callee:= .builtin .clear,args:= #[y],argTypes:= #[t]}) (he:bM C.P t=some (e,sz)) (hz:aL C.P e=some zs) (hzs:zs.length=sz) (h0:0<sz)
 (h1:zs.all (fun z=>z.oneCell')=true) (hy:ev true st y=some (.ot id lo n)) (hl:look id st.aD=some (.own e sz gr es)) (hd:OW nt o.dst=true):
 j6 C o st {aO:=(match o.dst with|some d=>place d (.d (.tup [])) st.aO|none=>st.aO),aD:=place id (.own e sz gr (es.take lo++List.replicate n (zs.map D.lit)++es.drop (lo+n))) st.aD} (lo+n≤es.length):=by
 intro ok h a w r hp
 obtain⟨hu,i,hi,hs⟩:=bF he
 obtain⟨z,hzr,hzl⟩:=dN hz w
 have hzsz:z.cells.size=sz:=by rw[←hzs,←hzl];simp
 have e1:=aT rfl r hy
 generalize hv:a.eval y=v at e1
 have fin: ∀w' o',Rep C {st with aD:=place id o' st.aD} ok h a w'→Rep C {aO:=(match o.dst with|some d=>place d (.d (.tup [])) st.aO|none=>st.aO),aD:=place id o' st.aD} ok h (a.put o.dst (.tuple #[])) w':=fun w' o' r'=>by
  cases hdst:o.dst with
  |none=>exact r'
  |some d=>
   rw[hdst]at hd
   exact r'.put (d:=some d) (fun u hu=>by rw[←Option.some.inj hu,←hnt];simpa[OW]using hd) (.d _ _ (.tup [] #[] (fun _=>undef) rfl (fun i hi=>by simp at hi) (fun i d hd=>by simp at hd)))
 have same:Rep C {st with aD:=place id (.own e sz gr es) st.aD} ok h a w:=by
  have lk: ∀j o1,look j (place id (.own e sz gr es) st.aD)=some o1→look j st.aD=some o1:=fun j o1 hj=>by
   rw[a8]at hj
   split at hj
   ·rename_i e2;subst e2;rw[hl];exact hj
   ·exact hj
  exact⟨⟨r.mem.os,r.mem.tape,r.mem.output,r.mem.size,r.mem.block,r.mem.okb,fun j o1 hj=>r.mem.obj j o1 (lk j o1 hj),fun j o1 b hj=>r.mem.blk j o1 b (lk j o1 hj),fun j j' o1 o2 b hj hj'=>r.mem.apart j j' o1 o2 b (lk j o1 hj) (lk j' o2 hj')⟩,r.defers,r.nt,r.pin,r.slot⟩
 cases e1 with
 |ot _ _ _ hcap=>
 rcases Nat.eq_zero_or_pos n with rfl|hn
 ·have hes:es.take lo++List.replicate 0 (zs.map D.lit)++es.drop (lo+0)=es:=by simp
  rw[hes]
  refine⟨.value (.tuple #[]),w,ok,h,?_,_,.inl rfl,fin w _ same⟩
  simp only[execOp,ho,resolve,invoke,builtin,Sem.run_bind,Sem.run_pure,Result.andThen_ok,List.map_toArray,List.map_cons,List.map_nil,hv]
  cases(h id).sub lo<;>simp[Builtin.clear_,run_underlying hu,Result.andThen]
 ·obtain⟨hsz,hcm,h5⟩:=r.mem.obj id _ hl
  rcases h5 with⟨h6,h7,h8⟩|⟨b,cur,fz,g1,g2,g3,g4,g5,g6,g7⟩
  ·subst h7;simp at hp;omega
  ·have hsub:(h id).sub lo=some ⟨b,lo*sz,none⟩:=by
    unfold Hd.sub
    rw[if_neg qD,g1,hsz]
    rfl
   have hfit:lo*sz+n*sz≤cur.size:=by
    rw[g6,←Nat.add_mul]
    exact Nat.mul_le_mul_right _ qD
   have hzc:(Builtin.zeroCells z.cells n).toList.length=n*sz:=by simp[Builtin.zeroCells,hzsz]
   have hzg: ∀q,q<n*sz→(Builtin.zeroCells z.cells n).toList[q]?=zs[q%sz]?:=fun q hq=>by
    have hm:q%sz<z.cells.size:=by rw[hzsz];exact Nat.mod_lt _ h0
    have h2:zs[q%sz]?=z.cells[q%sz]?:=by rw[←hzl,Array.getElem?_toList]
    rw[h2,Array.getElem?_eq_getElem hm,Array.getElem?_toList]
    simp only[Builtin.zeroCells,hzsz]
    simp[hq,getElem!_pos,hm]
   obtain⟨w',hr,g,hs',cur',k1,k2,k3⟩:=dO (P:=C.P) b e fz (Builtin.zeroCells z.cells n).toList (lo*sz) cur w g2 qD g3 (fun u hu=>by
    obtain⟨q,hq⟩:=List.mem_iff_getElem?.1 hu
    have hql:q<n*sz:=by rw[←hzc];exact(List.getElem?_eq_some_iff.1 hq).1
    rw[hzg q hql]at hq
    exact List.all_eq_true.1 h1 u (List.mem_of_getElem? hq)) (lo*sz) 0 rfl
   rw[hzc]at k3
   have hokb: ∀k,ok k→w'.heap[k]?=w.heap[k]?:=fun k hk=>g.block k (r.mem.okb k hk).1 (fun e=>by cases e;exact(r.mem.blk id _ b hl g1).2.1 hk)
   have hrow: ∀j k,(lo≤j∧j<lo+n)→k<sz→cur'[j*sz+k]?=zs[k]?:=fun j k hj hk=>by
    have a1:lo*sz≤j*sz:=Nat.mul_le_mul_right _ hj.1
    have a2:(j+1)*sz≤(lo+n)*sz:=Nat.mul_le_mul_right _ hj.2
    rw[Nat.add_mul,Nat.add_mul]at a2
    rw[k3,if_pos qD,hzg _ qD]
    congr 1
    have:j*sz+k-lo*sz=(j-lo)*sz+k:=by rw[Nat.sub_mul];omega
    rw[this,Nat.mul_add_mod',Nat.mod_eq_of_lt hk]
   have hrow2: ∀j k,(j<lo∨lo+n≤j)→k<sz→cur'[j*sz+k]?=cur[j*sz+k]?:=fun j k hj hk=>by
    rw[k3,if_neg]
    rintro⟨a1,a2⟩
    rcases hj with hj|hj
    ·have:(j+1)*sz≤lo*sz:=Nat.mul_le_mul_right _ hj
     rw[Nat.add_mul]at this
     omega
    ·have:(lo+n)*sz≤j*sz:=Nat.mul_le_mul_right _ hj
     rw[Nat.add_mul]at this
     omega
   refine⟨.value (.tuple #[]),w',ok,h,?_,_,.inl rfl,fin w' _ ⟨r.mem.write hl g1 g hs' ⟨hsz,hcm,.inr ⟨b,cur',fz,g1,k1,by rw[k2];exact g3,g4,?_,by rw[k2];exact g6,fun j l hj=>?_⟩⟩,r.defers,r.nt,r.pin,fun i u hu=>?_⟩⟩
   ·obtain⟨m,rfl⟩: ∃m,n=m+1:=⟨n-1,qD⟩
    simp only[execOp,ho,resolve,invoke,builtin,Sem.run_bind,Sem.run_pure,Result.andThen_ok,List.map_toArray,List.map_cons,List.map_nil,hv,hsub]
    simp[Builtin.clear_,run_underlying hu,hzr,hr,Result.andThen]
   ·simp only[List.length_append,List.length_take,List.length_replicate,List.length_drop]
    omega
   ·by_cases hj1:j<lo
    ·rw[List.append_assoc,List.getElem?_append_left qH,List.getElem?_take,if_pos hj1]at hj
     obtain⟨q1,q2⟩:=g7 j l hj
     refine⟨q1,fun k d hk=>?_⟩
     obtain⟨v,q3,q4⟩:=q2 k d hk
     exact⟨v,Qs,q4.mono hokb fun _ hb=>hb⟩
    ·by_cases hj2:j<lo+n
     ·rw[List.append_assoc,List.getElem?_append_right qH,List.getElem?_append_left qH,List.getElem?_replicate]at hj
      split at hj
      ·cases hj
       refine⟨by simp[hzs],fun k d hk=>?_⟩
       rw[List.getElem?_map]at hk
       obtain⟨v,q3,q4⟩:=Option.map_eq_some_iff.1 hk
       subst q4
       exact⟨v,by rw[hrow j k ⟨qD,hj2⟩ (by rw[←hzs];exact(List.getElem?_eq_some_iff.1 q3).1)];exact q3,.lit v⟩
      ·cases hj
     ·rw[List.append_assoc,List.getElem?_append_right qH,List.getElem?_append_right qH,List.getElem?_drop]at hj
      simp only[List.length_take,List.length_replicate]at hj
      rw[Nat.min_eq_left qD,show lo+n+(j-lo-n)=j by omega]at hj
      obtain⟨q1,q2⟩:=g7 j l hj
      refine⟨q1,fun k d hk=>?_⟩
      obtain⟨v,q3,q4⟩:=q2 k d hk
      exact⟨v,Qn,q4.mono hokb fun _ hb=>hb⟩
   ·obtain⟨h11,v,h12,h13⟩:=r.slot i u hu
    exact⟨h11,v,h12,h13.mono hokb fun _ hb=>hb⟩
theorem Sw (r:Rep C st ok h a w) {tx e e' sz id lo m:Nat} {gr:Bool×List D} {es:List (List D)} {z:Operand} (h0:0<sz) (hl:look id st.aD=some (.own e sz gr es)) (hu:C.P.underlying tx=some (.slice e')) (e1:RdV w ok h (.ot id lo m) (a.eval z)) (hm:lo+m≤es.length) (hr:eW sz es):
 ∃cs,Src C.P sz tx (a.eval z) m cs w∧eG w ok sz ((es.drop lo).take m) cs:=by
 generalize hv:a.eval z=v at e1
 cases e1 with
 |ot _ _ _ hcap=>
  obtain⟨hsz,hcm,h5⟩:=r.mem.obj id _ hl
  rcases Nat.eq_zero_or_pos m with rfl|hm0
  ·refine⟨[],?_,by simp[eG]⟩
   cases hA:(h id).sub lo with
   |none=>exact⟨.inl ⟨_,hu⟩,fun _=>rfl,QA,QA,qE,fun _ hx=>by cases hx⟩
   |some A=>exact Src.ofSlice w hu A 0 _ [] qE (fun j u hj=>by simp at hj) (fun u hu=>by cases hu)
  ·rcases h5 with⟨h6,h7,h8⟩|⟨b,cur,fz,h1,h2,h3,_,h4,h5,h6⟩
   ·subst h7;simp at hm;omega
   ·have hsub:(h id).sub lo=some ⟨b,lo*sz,none⟩:=by
     unfold Hd.sub
     rw[if_neg qD,h1,hsz]
     rfl
    have hfit:lo*sz+m*sz≤cur.size:=by
     rw[h5,←Nat.add_mul]
     exact Nat.mul_le_mul_right _ qD
    let G:Nat→Value:=fun q=>cur.getD (lo*sz+q) undef
    have hlen:((es.drop lo).take m).length=m:=by simp;omega
    obtain⟨g1,g2⟩:=vK (w:=w) (ok:=ok) (G:=G) (es:=(es.drop lo).take m) h0 (fun l hl=>hr l (List.mem_of_mem_drop (List.mem_of_mem_take hl))) (fun i k l d hi hk=>by
     rw[List.getElem?_take]at hi
     split at hi
     ·rw[List.getElem?_drop]at hi
      obtain⟨v,k1,k2⟩:=(h6 (lo+i) l hi).2 k d hk
      rw[Nat.add_mul,Nat.add_assoc]at k1
      have hG:G (i*sz+k)=v:=by simp[G,Array.getD_eq_getD_getElem?,k1]
      rw[hG]
      exact k2
     ·cases hi)
    rw[hlen]at g1 g2
    rw[hsub]
    refine⟨_,Src.ofSlice w hu ⟨b,lo*sz,none⟩ m _ ((List.range (m*sz)).map G) qE (fun j u hj=>?_) g2,g1⟩
    simp only[List.getElem?_map,Option.map_eq_some_iff]at hj
    obtain⟨q,hq',rfl⟩:=hj
    obtain⟨hlt,hq'⟩:=List.getElem?_eq_some_iff.1 hq'
    simp at hq' hlt
    subst hq'
    rw[addr_add]
    have:lo*sz+j<cur.size:=by omega
    simp[World.cell?,h2,G,Array.getElem?_eq_getElem this]
theorem Bw {nt:Nat} (hnt:nt=C.nt) {t tx e sz n lo m id:Nat} {q:Nat×Nat} {y z:Operand} {gr:Bool×List D} {es:List (List D)} {d:Tmp} (ho:o.op= .call {callee:= .builtin .append,args:= #[y,z],argTypes:= #[t,tx]}) (hdst:o.dst=some d) (he:bM C.P t=some (e,sz)) (hx:bM C.P tx=some q) (h0:0<sz)
 (hy:ev true st y=some (.os id n)) (hz:ev true st z=some (.ot id lo m)) (hl:look id st.aD=some (.own e sz gr es)) (hd:d<nt):
 j6 C o st {aO:=place d (.os id (n+m)) st.aO,aD:=place id (.own e sz gr (es.take n++(es.drop lo).take m++es.drop (n+m))) st.aD} (lo+m≤es.length∧n+m≤es.length∧eW sz es):=by
 intro ok h a w r ⟨hp1,hp2,hp3⟩
 obtain⟨hu,i,hi,hs⟩:=bF he
 obtain⟨hux,_⟩:=bF hx
 simp only at hu hi hs hux
 subst hs
 obtain⟨cs,hS,hcs⟩:=Sw r h0 hl hux (aT rfl r hz) hp1 hp3
 have e1:=aT rfl r hy
 generalize hv:a.eval y=v at e1
 cases e1 with
 |os _ _ hcap=>
  obtain⟨hsz,hcm,h5⟩:=r.mem.obj id _ hl
  have hcl:=hcs.1
  have hml:((es.drop lo).take m).length=m:=by simp;omega
  rw[hml]at hcl
  rcases h5 with⟨h6,h7,h8⟩|⟨b,cur,fz,g1,g2,g3,g4,g5,g6,g7⟩
  ·subst h7
   obtain⟨rfl,rfl⟩:n=0∧m=0:=by simp at hp2;omega
   have hA:(h id).addr=none:=by simp[Hd.addr,h6]
   refine⟨.value (.slice (h id).addr 0 (h id).cap),w,ok,h,?_,_,.inl rfl,?_⟩
   ·rw[hA]at hv⊢
    simp only[execOp,ho,resolve,invoke,builtin,Sem.run_bind,Sem.run_pure,Result.andThen_ok,List.map_toArray,List.map_cons,List.map_nil,hv]
    rcases hS.kind with⟨e',hk⟩|hk<;>simp[Builtin.append_,run_underlying hu,run_underlying hk,sizeOf,typeInfo,hi,hS.len,hS.cells,Result.andThen]
   ·have lk: ∀j o1,look j (place id (O.own e i.size gr (List.take 0 []++List.take 0 (List.drop lo [])++List.drop (0+0) [])) st.aD)=some o1→look j st.aD=some o1:=fun j o1 hj=>by
     rw[a8]at hj
     split at hj
     ·rename_i e2;subst e2;rw[hl,←hj];simp
     ·exact hj
    have same:Rep C {st with aD:=place id (.own e i.size gr (List.take 0 []++List.take 0 (List.drop lo [])++List.drop (0+0) [])) st.aD} ok h a w:=
     ⟨⟨r.mem.os,r.mem.tape,r.mem.output,r.mem.size,r.mem.block,r.mem.okb,fun j o1 hj=>r.mem.obj j o1 (lk j o1 hj),fun j o1 b hj=>r.mem.blk j o1 b (lk j o1 hj),fun j j' o1 o2 b hj hj'=>r.mem.apart j j' o1 o2 b (lk j o1 hj) (lk j' o2 hj')⟩,r.defers,r.nt,r.pin,r.slot⟩
    rw[hdst]
    exact same.put (d:=some d) (fun u hu=>by rw[←Option.some.inj hu,←hnt];exact hd) (.os id 0 qD)
  ·obtain⟨w',hr,g,hs',cur',k1,k2,k3⟩:=jW (P:=C.P) (ty:=o.type) hu hi g2 g3 hS (by omega:n+m≤(h id).cap) g6
   rw[hcl]at k3
   have hokb: ∀k,ok k→w'.heap[k]?=w.heap[k]?:=fun k hk=>g.block k (r.mem.okb k hk).1 (fun e=>by cases e;exact(r.mem.blk id _ b hl g1).2.1 hk)
   have hnm:n*i.size+m*i.size=(n+m)*i.size:=(Nat.add_mul _ _ _).symm
   have hrow: ∀j k,(n≤j∧j<n+m)→k<i.size→cur'[j*i.size+k]?=cs[(j-n)*i.size+k]?:=fun j k hj hk=>by
    have a1:n*i.size≤j*i.size:=Nat.mul_le_mul_right _ hj.1
    have a2:(j+1)*i.size≤(n+m)*i.size:=Nat.mul_le_mul_right _ hj.2
    rw[Nat.add_mul]at a2
    rw[k3,if_pos qD,Nat.sub_mul]
    congr 1
    omega
   have hrow2: ∀j k,(j<n∨n+m≤j)→k<i.size→cur'[j*i.size+k]?=cur[j*i.size+k]?:=fun j k hj hk=>by
    rw[k3,if_neg]
    rintro⟨a1,a2⟩
    rcases hj with hj|hj
    ·have:(j+1)*i.size≤n*i.size:=Nat.mul_le_mul_right _ hj
     rw[Nat.add_mul]at this
     omega
    ·have:(n+m)*i.size≤j*i.size:=Nat.mul_le_mul_right _ hj
     omega
   refine⟨.value (.slice (some ⟨b,0,none⟩) (n+m) (h id).cap),w',ok,h,?_,_,.inl rfl,?_⟩
   ·simp only[execOp,ho,resolve,invoke,builtin,Sem.run_bind,Sem.run_pure,Result.andThen_ok,List.map_toArray,List.map_cons,List.map_nil,hv,Hd.addr,g1,Option.map_some,hr]
   ·rw[hdst]
    refine Rep.put (st:={st with aD:=place id (.own e i.size gr (es.take n++(es.drop lo).take m++es.drop (n+m))) st.aD}) (d:=some d) ⟨r.mem.write hl g1 g hs' ⟨hsz,hcm,.inr ⟨b,cur',fz,g1,k1,by rw[k2];exact g3,g4,?_,by rw[k2];exact g6,fun j l hj=>?_⟩⟩,r.defers,r.nt,r.pin,fun i u hu=>?_⟩ (fun u hu=>by rw[←Option.some.inj hu,←hnt];exact hd) ?_
    ·simp only[List.length_append,List.length_take,List.length_drop]
     omega
    ·by_cases hj1:j<n
     ·rw[List.append_assoc,List.getElem?_append_left qH,List.getElem?_take,if_pos hj1]at hj
      obtain⟨q1,q2⟩:=g7 j l hj
      refine⟨q1,fun k d hk=>?_⟩
      obtain⟨v,q3,q4⟩:=q2 k d hk
      exact⟨v,Qs,q4.mono hokb fun _ hb=>hb⟩
     ·by_cases hj2:j<n+m
      ·rw[List.append_assoc,List.getElem?_append_right qH,List.getElem?_append_left qH]at hj
       have hlt:(es.take n).length=n:=by simp;omega
       rw[hlt]at hj
       obtain⟨q1,q2⟩:=hcs.2 (j-n) l hj
       refine⟨q1,fun k d hk=>?_⟩
       obtain⟨v,q3,q4⟩:=q2 k d hk
       exact⟨v,by rw[hrow j k ⟨qD,hj2⟩ Qe];exact q3,q4.mono hokb fun _ hb=>hb⟩
      ·rw[List.getElem?_append_right qH,List.getElem?_drop]at hj
       have hlt:(es.take n++(es.drop lo).take m).length=n+m:=by simp;omega
       rw[hlt,show n+m+(j-(n+m))=j by omega]at hj
       obtain⟨q1,q2⟩:=g7 j l hj
       refine⟨q1,fun k d hk=>?_⟩
       obtain⟨v,q3,q4⟩:=q2 k d hk
       exact⟨v,Qn,q4.mono hokb fun _ hb=>hb⟩
    ·obtain⟨h11,v,h12,h13⟩:=r.slot i u hu
     exact⟨h11,v,h12,h13.mono hokb fun _ hb=>hb⟩
    ·have:=RdV.os (w:=w') (ok:=ok) (h:=h) id (n+m) qD
     simpa[Hd.addr,g1]using this
theorem Rep.drew (r:Rep C st ok h a w):Rep C st ok h a w.drew:=⟨⟨r.mem.os,r.mem.tape,r.mem.output,r.mem.size,r.mem.block,r.mem.okb,fun id o hl=>(r.mem.obj id o hl).mono (w:=w) (w':=w.drew) (fun _ _=>rfl) (fun _ h=>h) (fun _ _=>rfl),r.mem.blk,r.mem.apart⟩,r.defers,r.nt,r.pin,fun i x hx=>let⟨h1,v,h2,h3⟩:=r.slot i x hx;⟨h1,v,h2,h3.mono (w:=w) (w':=w.drew) (fun _ _=>rfl) fun _ h=>h⟩⟩
theorem OY {P:Program} {e:TypeId} {i:TypeInfo} {z:Value} {w:World} (hi:P.info? e=some i) (hzr:(zeroValue e).run P w= .ok z w):i.zero=some z:=by
 cases hq:i.zero with
 |none=>simp[zeroValue,typeInfo,hi,hq]at hzr
 |some z'=>
  simp[zeroValue,typeInfo,hi,hq]at hzr
  rw[hzr]
theorem vL {nt:Nat} (hnt:nt=C.nt) (hc:cS C) {t tn e sz by_:Nat} {zs:List Value} {y z:Operand} {k kn:IntKind} {n:Int} {d:Tmp} (ho:o.op= .call {callee:= .builtin .append,args:= #[y,z],argTypes:= #[t,tn]}) (hdst:o.dst=some d)
 (he:bM C.P t=some (e,sz)) (htn:C.P.underlying tn=some (.int kn)) (hb:cK C.P e=some by_) (hz:aL C.P e=some zs) (hzs:zs.length=sz) (h0:0<sz) (hy:ev true st y=some (.d (.lit (.slice none 0 0)))) (hz':ev true st z=some (.d (.lit (.int k n)))) (hf:bK d st=true) (hd:d<nt):
 j6 C o st {aO:=place d (.os d n.toNat) st.aO,aD:=place d (.own e sz (true,zs.map D.lit) (List.replicate n.toNat (zs.map D.lit))) st.aD} (0<n∧(by_:Int)*n≤281474976710656∧n≤9223372036854775807):=by
 intro ok h a w r hp
 obtain⟨h1,h2,h3⟩:=hp
 obtain⟨hu,i,hi,hs⟩:=bF he
 obtain⟨z,hzr,hzl⟩:=dN hz w
 have hiz:i.zero=some z∧i.bytes=by_:=by
  refine⟨OY hi hzr,?_⟩
  unfold cK at hb
  simp only at hi
  rw[hi]at hb
  exact Option.some.inj hb
 have e1:=aX (aT rfl r hy)
 have e2:=aX (aT rfl r hz')
 obtain⟨m,rfl⟩: ∃m:Nat,n=m:=⟨n.toNat,qD⟩
 simp only[Int.toNat_natCast]
 simp only at hs
 subst hs
 have hsize:z.cells.size=i.size:=by rw[←hzs,←hzl];simp
 have hm:m≤maxLen:=by simp only[maxLen];omega
 have hb2:m*i.bytes≤281474976710656:=by
  rw[hiz.2,Nat.mul_comm]
  have h2':((by_*m:Nat):Int)≤281474976710656:=by rw[Int.natCast_mul];exact h2
  omega
 have hrun:=Lib.run_append_nil_zeros (P:=C.P) w t tn o.type e i z k kn hu htn hi hiz.1 m qD h0 h3 hb2
 have hge:=grownCap_ge w m 0 e
 have hle:=grownCap_le_maxLen w m 0 e hm
 have hzc: ∀q j,j<q*z.cells.size→(Builtin.zeroCells z.cells q)[j]?=z.cells[j%z.cells.size]?:=fun q j hj=>by
  have hpos:0<z.cells.size:=by omega
  have hmd:j%z.cells.size<z.cells.size:=Nat.mod_lt _ hpos
  rw[Array.getElem?_eq_getElem hmd]
  simp[Builtin.zeroCells,hj,getElem!_pos,hmd]
 have hzn: ∀q,(Builtin.zeroCells z.cells q).size=q*z.cells.size:=fun q=>by simp[Builtin.zeroCells]
 have rn:=HT (z:=zs.map D.lit) r.drew hc.lt (Nat.lt_of_lt_of_le hd Qd) hf e (sz:=i.size) (cap:=grownCap w m 0 e) (es:=List.replicate m (zs.map D.lit)) (cur:=Builtin.zeroCells z.cells m++Builtin.zeroCells z.cells (grownCap w m 0 e-m)) hle (by simpa using hge) (by
  rw[Array.size_append,hzn,hzn,hsize,←Nat.add_mul]
  congr 1
  omega) (fun j l hj=>by
  rw[List.getElem?_replicate]at hj
  split at hj
  ·rename_i hlt'
   cases hj
   refine⟨by simp[hzs],fun q d hq=>?_⟩
   rw[List.getElem?_map]at hq
   obtain⟨v,hv,hvd⟩:=Option.map_eq_some_iff.1 hq
   subst hvd
   have hqs:q<i.size:=by rw[←hzs];exact(List.getElem?_eq_some_iff.1 hv).1
   have hidx:j*i.size+q<m*i.size:=by
    have:(j+1)*i.size≤m*i.size:=Nat.mul_le_mul_right _ qD
    rw[Nat.add_mul]at this
    omega
   refine⟨v,?_,.lit v⟩
   rw[Array.getElem?_append_left (by rw[hzn,hsize];exact hidx),hzc m _ (by rw[hsize];exact hidx)]
   have hmm:(j*i.size+q)%z.cells.size=q:=by rw[hsize,Nat.mul_add_mod',Nat.mod_eq_of_lt hqs]
   rw[hmm]
   rw[←hzl,Array.getElem?_toList]at hv
   exact hv
  ·cases hj)
 refine⟨.value (.slice (some ⟨w.heap.size,0,none⟩) m (grownCap w m 0 e)),w.drew.alloc (.cells (Builtin.zeroCells z.cells m++Builtin.zeroCells z.cells (grownCap w m 0 e-m)) e),ok,upd h d ⟨some w.heap.size,grownCap w m 0 e,i.size⟩,?_,.slice (some ⟨w.heap.size,0,none⟩) m (grownCap w m 0 e),.inl rfl,?_⟩
 ·simp only[execOp,ho,resolve,invoke,builtin,Sem.run_bind,Sem.run_pure,Result.andThen_ok,List.map_toArray,List.map_cons,List.map_nil,e1,e2,hrun]
 ·rw[hdst]
  have hos:RdV (w.drew.alloc (.cells (Builtin.zeroCells z.cells m++Builtin.zeroCells z.cells (grownCap w m 0 e-m)) e)) ok (upd h d ⟨some w.heap.size,grownCap w m 0 e,i.size⟩) (.os d m) (.slice (some ⟨w.heap.size,0,none⟩) m (grownCap w m 0 e)):=by
   have:=RdV.os (w:=w.drew.alloc (.cells (Builtin.zeroCells z.cells m++Builtin.zeroCells z.cells (grownCap w m 0 e-m)) e)) (ok:=ok) (h:=upd h d ⟨some w.heap.size,grownCap w m 0 e,i.size⟩) d m (by rw[aM];exact hge)
   rw[aM]at this
   exact this
  exact rn.put (d:=some d) (fun u hu=>by rw[←Option.some.inj hu,←hnt];exact hd) hos
theorem HY {nt:Nat} (hc:cS C) (hnt:nt=C.nt) (he:OX C.P nt o st=some (st',p)):j6 C o st st' p:=by
 unfold OX at he
 split at he
 ·rename_i t d ho hd
  split at he
  ·rename_i e hm
   split at he
   ·rename_i hb
    simp only[Bool.and_eq_true,decide_eq_true_eq]at hb
    obtain⟨rfl,rfl⟩:=Prod.mk.inj (Option.some.inj he)
    exact C9 hnt hc ho hd hb.1 hb.2
   ·cases he
  ·cases he
 ·rename_i t m k z ho hd
  split at he
  ·rename_i id y v hm hk hz
   split at he
   ·rename_i kd L s hl hs
    split at he
    ·rename_i hc
     obtain⟨rfl,hc⟩:=hc
     obtain⟨rfl,rfl⟩:=Prod.mk.inj (Option.some.inj he)
     exact zW ho hd hm hk hs hz hl hc
    ·cases he
   ·cases he
  ·cases he
 ·rename_i t m k d ho hd
  split at he
  ·rename_i id y hm hk
   split at he
   ·rename_i kd L s hl hs
    split at he
    ·rename_i z hmt
     split at he
     ·rename_i hc
      obtain⟨rfl,hlt⟩:=hc
      obtain⟨rfl,rfl⟩:=Prod.mk.inj (Option.some.inj he)
      exact Bv hnt ho hd hm hk hs hl hmt hlt
     ·cases he
    ·cases he
   ·cases he
  ·cases he
 ·rename_i t m i z ho hd
  split at he
  ·rename_i id kn n v hm hi hz
   split at he
   ·rename_i kd L hl
    obtain⟨rfl,rfl⟩:=Prod.mk.inj (Option.some.inj he)
    exact yK ho hd hm hi hz hl
   ·cases he
  ·cases he
 ·rename_i c ho
  obtain⟨callee,args,ts⟩:=c
  obtain⟨args⟩:=args
  obtain⟨ts⟩:=ts
  simp only at he
  split at he
  ·rename_i y t
   split at he
   ·rename_i id lo n e sz hy hel
    split at he
    ·rename_i e' sz' gr es zs hl hz
     split at he
     ·rename_i hb
      obtain⟨rfl,rfl,h2,h3,h4,h5⟩:=hb
      obtain⟨rfl,rfl⟩:=Prod.mk.inj (Option.some.inj he)
      exact HX hnt ho hel hz h2 h3 h4 hy hl h5
     ·cases he
    ·cases he
   ·cases he
  ·rename_i y z t tx
   split at he
   ·rename_i d id n id2 lo m e sz q hdst hy hz hel hex
    split at he
    ·rename_i e' sz' gr es hl
     split at he
     ·rename_i hb
      obtain⟨rfl,rfl,rfl,h4,h5⟩:=hb
      obtain⟨rfl,rfl⟩:=Prod.mk.inj (Option.some.inj he)
      exact Bw hnt ho hdst hel hex h4 hy hz hl h5
     ·cases he
    ·cases he
   ·rename_i d _ n e sz hdst hy hz hel hex
    split at he
    ·rename_i kn b zs htn hby hzs
     split at he
     ·rename_i hb
      obtain⟨h2,h3,h4,h5⟩:=hb
      obtain⟨rfl,rfl⟩:=Prod.mk.inj (Option.some.inj he)
      exact vL hnt hc ho hdst hel htn hby hzs h2 h3 hy hz h4 h5
     ·cases he
    ·cases he
   ·cases he
  ·cases he
 ·cases he
end
end Go.Lw
