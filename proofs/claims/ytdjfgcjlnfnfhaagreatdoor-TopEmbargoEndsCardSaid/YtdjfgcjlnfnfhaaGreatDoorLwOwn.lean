/- SLICES OF THE FUNCTION's OWN: made, filled, appended to, on list-level states. -/
import Derived.Test.YtdjfgcjlnfnfhaaGreatDoorLwRo
import Derived.Maps.AppendAt
set_option linter.unusedSimpArgs false
set_option linter.unusedVariables false
namespace Go.Lw
open Go.RowKit
def St.put (st:St) (d:Option Tmp) (x:V):St:=match d with|some d=>{st with aO:=place d x st.aO}|none=>st
def upd (h:Nat→Hd) (id:Nat) (x:Hd):Nat→Hd:=fun j=>if j=id then x else h j
theorem aM (h:Nat→Hd) (id:Nat) (x:Hd):upd h id x id=x:=by simp[upd]
theorem bS (h:Nat→Hd) (id:Nat) (x:Hd): ∀j,j≠id→upd h id x j=h j:=fun j hj=>by simp[upd,hj]
section
variable {C:Ctx} {st:St} {ok:Nat→Prop} {h:Nat→Hd} {a:Act} {w w':World} {o:Oper} {x:V} {p:Prop}
theorem Rep.put (r:Rep C st ok h a w) {d:Option Tmp} (hd: ∀t,d=some t→t<C.nt) {v:Value} (hx:RdV w ok h x v):Rep C (st.put d x) ok h (a.put d v) w:=by
 cases d with
 |none=>exact r
 |some t=>
  have ht:=hd t rfl
  refine⟨r.mem,r.defers,by simp[Act.put,r.nt],r.pin,fun i y hy=>?_⟩
  simp only[St.put,a8]at hy
  split at hy
  ·rename_i e
   subst e
   cases hy
   refine⟨ht,v,?_,hx⟩
   simp[Act.put,Array.getElem?_setIfInBounds,r.nt,ht]
  ·rename_i e
   obtain⟨h1,u,h2,h3⟩:=r.slot i y hy
   refine⟨h1,u,?_,h3⟩
   simp only[Act.put]
   rw[Array.getElem?_setIfInBounds]
   simp[e,h2]
theorem Mem.step {aD:List (Nat×O)} (m:Mem C ok h aD w) (id:Nat) (hd:Hd) (o':O) (row:Option Nat) (g:w.grownBy w' row)
 (hrow: ∀b,row=some b→ ∃o,look id aD=some o∧(h id).blk=some b)
 (hblk: ∀b,hd.blk=some b→row=some b∨(w.heap.size≤b∧b<w'.heap.size))
 (hso: ∀j o,j≠id→look j aD=some o→o.bU id=false)
 (ho':RdO w' ok (upd h id hd) id o') (hlt: ∀b,C.zE b→b<C.w0.heap.size):Mem C ok (upd h id hd) (place id o' aD) w':=by
 have hrb: ∀b,row=some b→b<w.heap.size∧ ¬ok b∧(C.w0.heap.size≤b∨C.nC id b):=fun b hb=>by
  obtain⟨o,h1,h2⟩:=hrow b hb
  exact m.blk id o b h1 h2
 have hokb: ∀b,ok b→w'.heap[b]?=w.heap[b]?:=fun b hb=>g.block b (m.okb b hb).1 (fun e=>(hrb b e.symm).2.1 hb)
 have hsz:=g.size
 have hms:=m.size
 refine⟨g.os.trans m.os,g.tape.trans m.tape,g.output.trans m.output,Nat.le_trans m.size g.size,fun k hk hl=>?_,fun k hk=>?_,fun j o hj=>?_,fun j o b hj hb=>?_,fun j j' o o1 b hj hj' hne hb=>?_⟩
 ·rw[g.block k qD (fun e=>?_)]
  ·exact m.block k hk hl
  ·rcases(hrb k e.symm).2.2 with h1|h1
   ·omega
   ·exact hl ⟨_,h1⟩
 ·have:=m.okb k hk
  exact⟨qD,this.2⟩
 ·rw[a8]at hj
  split at hj
  ·rename_i e
   subst e;cases hj;exact ho'
  ·rename_i e
   refine RdO.swap (bS h id hd) (fun e'=>e e'.symm) ((m.obj j o hj).mono hokb (fun _ hb=>hb) fun b hb=>?_) (hso j o (fun e'=>e e'.symm) hj)
   refine g.block b (m.blk j o b hj hb).1 (fun e'=>?_)
   obtain⟨o2,h1,h2⟩:=hrow b e'.symm
   exact m.apart id j o2 o b h1 hj e h2 hb
 ·rw[a8]at hj
  split at hj
  ·rename_i e
   subst e
   rw[aM]at hb
   rcases hblk b hb with h1|h1
   ·have:=hrb b h1
    exact⟨qD,this.2⟩
   ·exact⟨h1.2,fun hx=>by have:=(m.okb b hx).1;omega,.inl qD⟩
  ·rename_i e
   rw[bS h id hd j (fun e'=>e e'.symm)]at hb
   have:=m.blk j o b hj hb
   exact⟨qD,this.2⟩
 ·rw[a8]at hj hj'
  have key: ∀j o b,look j aD=some o→id≠j→(h j).blk=some b→hd.blk≠some b:=by
   intro j o b hj hne hb hx
   rcases hblk b hx with h1|h1
   ·obtain⟨o2,h3,h4⟩:=hrow b h1
    exact m.apart id j o2 o b h3 hj hne h4 hb
   ·have:=(m.blk j o b hj hb).1
    omega
  split at hj
  ·rename_i e
   subst e
   rw[aM]at hb
   rw[if_neg hne]at hj'
   rw[bS h id hd j' (fun e'=>hne e'.symm)]
   intro hb'
   exact key j' o1 b hj' hne hb' hb
  ·rename_i e
   rw[bS h id hd j (fun e'=>e e'.symm)]at hb
   split at hj'
   ·rename_i e'
    subst e'
    rw[aM]
    exact key j o b hj e hb
   ·rename_i e'
    rw[bS h id hd j' (fun e1=>e' e1.symm)]
    exact m.apart j j' o o1 b hj hj' hne hb
theorem Mem.write {aD:List (Nat×O)} (m:Mem C ok h aD w) {id:Nat} {o o':O} {b:Nat} (hl:look id aD=some o) (hb:(h id).blk=some b) (g:w.grownBy w' (some b))
 (hs:w'.heap.size=w.heap.size) (ho':RdO w' ok h id o'):Mem C ok h (place id o' aD) w':=by
 obtain⟨hb1,hb2,hb3⟩:=m.blk id o b hl hb
 have hokb: ∀k,ok k→w'.heap[k]?=w.heap[k]?:=fun k hk=>g.block k (m.okb k hk).1 (fun e=>by cases e;exact hb2 hk)
 have hms:=m.size
 have keep: ∀j o1,look j (place id o' aD)=some o1→ ∃o2,look j aD=some o2:=fun j o1 hj=>by
  rw[a8]at hj
  split at hj
  ·rename_i e;subst e;exact⟨o,hl⟩
  ·exact⟨o1,hj⟩
 refine⟨g.os.trans m.os,g.tape.trans m.tape,g.output.trans m.output,Nat.le_trans m.size g.size,fun k hk hl'=>?_,fun k hk=>?_,fun j o1 hj=>?_,fun j o1 b1 hj hb1'=>?_,fun j j' o1 o2 b1 hj hj' hne hb1'=>?_⟩
 ·rw[g.block k qD (fun e=>?_)]
  ·exact m.block k hk hl'
  ·cases e
   rcases hb3 with h1|h1
   ·omega
   ·exact hl' ⟨_,h1⟩
 ·have:=m.okb k hk
  exact⟨qD,this.2⟩
 ·rw[a8]at hj
  split at hj
  ·rename_i e
   subst e;cases hj;exact ho'
  ·rename_i e
   refine(m.obj j o1 hj).mono hokb (fun _ hb=>hb) fun b1 hb1'=>g.block b1 (m.blk j o1 b1 hj hb1').1 (fun e'=>?_)
   cases e'
   exact m.apart id j o o1 b hl hj e hb hb1'
 ·obtain⟨o2,h2⟩:=keep j o1 hj
  have:=m.blk j o2 b1 h2 hb1'
  exact⟨qD,this.2⟩
 ·obtain⟨o3,h3⟩:=keep j o1 hj
  obtain⟨o4,h4⟩:=keep j' o2 hj'
  exact m.apart j j' o3 o4 b1 h3 h4 hne hb1'
structure cS (C:Ctx):Prop where
 lt: ∀b,C.zE b→b<C.w0.heap.size
 nt:C.nt≤50000
 ids: ∀id o,look id C.R2=some o→50000≤id
 std:Std C.P C.w0
 low: ∀b,C.zE b→C.P.globals.size≤b
theorem Mem.std {aD:List (Nat×O)} (hc:cS C) (m:Mem C ok h aD w):Std C.P w:=
 hc.std.keep m.size fun k hk=>m.block k (Nat.lt_of_lt_of_le hk hc.std.1) fun hl=>by have:=hc.low k hl;omega
def bK (id:Nat) (st:St):Bool:=st.aO.all (fun p=> !bU id p.2)&&st.aD.all (fun p=>p.1==id|| !p.2.bU id)
theorem cX {α:Type} {i:Nat} {x:α}: ∀{l:List (Nat×α)},look i l=some x→(i,x)∈l
 |[],hl=>by cases hl
 |(j,y)::r,hl=>by
  simp only[look]at hl
  split at hl
  ·rename_i e
   subst e;cases hl;exact List.mem_cons_self
  ·exact List.mem_cons_of_mem _ (cX hl)
theorem iX {id:Nat} (hf:bK id st=true) {i:Nat} {x:V} (hl:look i st.aO=some x):bU id x=false:=by
 simp only[bK,Bool.and_eq_true,List.all_eq_true]at hf
 simpa using hf.1 _ (cX hl)
theorem kE {id:Nat} (hf:bK id st=true) {j:Nat} {o:O} (hj:j≠id) (hl:look j st.aD=some o):o.bU id=false:=by
 simp only[bK,Bool.and_eq_true,List.all_eq_true]at hf
 have:=hf.2 _ (cX hl)
 simpa[hj]using this
theorem Rep.new (r:Rep C st ok h a w) (hlt: ∀b,C.zE b→b<C.w0.heap.size) {id:Nat} (hid:id<100000) (hf:bK id st=true) (hd:Hd) (o':O) (ob:Obj) (hblk:hd.blk=some w.heap.size) (ho':RdO (w.alloc ob) ok (upd h id hd) id o'):
 Rep C {st with aD:=place id o' st.aD} ok (upd h id hd) a (w.alloc ob):=by
 refine⟨r.mem.step id hd o' none (World.grownBy_alloc w ob none) (fun b hb=>by cases hb) (fun b hb=>?_) (fun j o hj hl=>kE hf hj hl) ho' hlt,r.defers,r.nt,fun j hj=>(bS h id hd j qD).trans (r.pin j hj),fun i x hx=>?_⟩
 ·rw[hblk]at hb;cases hb
  exact .inr ⟨Nat.le_refl _,qE⟩
 ·obtain⟨h1,v,h2,h3⟩:=r.slot i x hx
  exact⟨h1,v,h2,(h3.mono (fun b hb=>Below.heap_alloc w ob b (r.mem.okb b hb).1) fun _ hb=>hb).swap (bS h id hd) (iX hf hx)⟩
def j6 (C:Ctx) (o:Oper) (st st':St) (p:Prop):Prop:=
 ∀ok h a w,Rep C st ok h a w→p→ ∃v w' ok' h',(execOp a.eval o).run C.P w= .ok v w'∧ ∃u,(v= .value u∨(v= .skip∧u=undef))∧Rep C st' ok' h' (a.put o.dst u) w'
theorem Mq (r:Rep C st ok h a w) (hlt: ∀b,C.zE b→b<C.w0.heap.size) {id:Nat} (hid:id<100000) (hf:bK id st=true) (t:TypeId) {v:Value} {cells:List V} (hn:v.cells.size=cells.length)
 (hc: ∀(k:Nat) (y:V),cells[k]?=some y→bU id y=false∧ ∃u,v.cells[k]?=some u∧RdV w ok h y u):
 Rep C {st with aD:=place id (.box t cells) st.aD} ok (upd h id ⟨some w.heap.size,0,0⟩) a (w.alloc (.cells v.cells t)):=by
 refine r.new hlt hid hf _ _ _ rfl ⟨w.heap.size,v.cells,Qz,heap_alloc_new w _,hn,fun k y hk=>?_⟩
 obtain⟨h1,u,h2,h3⟩:=hc k y hk
 exact⟨u,h2,(h3.mono (fun b hb=>Below.heap_alloc w _ b (r.mem.okb b hb).1) fun _ hb=>hb).swap (bS h id _) h1⟩
theorem HR {nt:Nat} (hnt:nt=C.nt) (hc:cS C) {t:TypeId} {zs:List Value} {d:Tmp} (ho:o.op= .alloc t) (hdst:o.dst=some d) (hz:aL C.P t=some zs) (hf:bK d st=true) (hd:d<nt):
 j6 C o st {aO:=place d (.bp d 0) st.aO,aD:=place d (.box t (zs.map fun z=> .d (.lit z))) st.aD} True:=by
 intro ok h a w r _
 obtain⟨z,h1,h2⟩:=dN hz w
 have rb:=Mq r hc.lt (Nat.lt_of_lt_of_le hd Qd) hf t (v:=z) (cells:=zs.map fun z=> .d (.lit z)) (by rw[←h2];simp) (fun k y hk=>by
  rw[List.getElem?_map]at hk
  obtain⟨u,h3,h4⟩:=Option.map_eq_some_iff.1 hk
  subst h4
  exact⟨rfl,u,by rw[←h2,Array.getElem?_toList]at h3;exact h3,.d _ _ (.lit u)⟩)
 refine⟨.value (.pointer (some ⟨w.heap.size,0,none⟩)),w.alloc (.cells z.cells t),ok,upd h d ⟨some w.heap.size,0,0⟩,?_,.pointer (some ⟨w.heap.size,0,none⟩),.inl rfl,?_⟩
 ·simp[execOp,ho,Instr.alloc,h1,newVar,newRow]
 ·rw[hdst]
  exact rb.put (d:=some d) (fun u hu=>by rw[←Option.some.inj hu,←hnt];exact hd) (.bp d 0 w.heap.size Qz)
theorem Mr {nt:Nat} (hnt:nt=C.nt) (hc:cS C) {t:TypeId} {y:Operand} {d:Tmp} (ho:o.op= .box t y) (hdst:o.dst=some d) (he:ev true st y=some x) (h1:(bH x).all jK=true)
 (hs:gH d (bH x)=false) (hf:bK d st=true) (hd:d<nt):
 j6 C o st {aO:=place d (.bp d 0) st.aO,aD:=place d (.box t (bH x)) st.aD} True:=by
 intro ok h a w r _
 obtain⟨h2,h3⟩:=iH h1 (aT rfl r he)
 have rb:=Mq r hc.lt (Nat.lt_of_lt_of_le hd Qd) hf t (v:=a.eval y) (cells:=bH x) h2 (fun k z hk=>⟨iW hs z (List.mem_of_getElem? hk),let⟨u,h4,h5,_⟩:=h3 k z hk;⟨u,h4,h5⟩⟩)
 refine⟨.value (.pointer (some ⟨w.heap.size,0,none⟩)),w.alloc (.cells (a.eval y).cells t),ok,upd h d ⟨some w.heap.size,0,0⟩,?_,.pointer (some ⟨w.heap.size,0,none⟩),.inl rfl,?_⟩
 rotate_left
 ·rw[hdst]
  exact rb.put (d:=some d) (fun u hu=>by rw[←Option.some.inj hu,←hnt];exact hd) (.bp d 0 w.heap.size Qz)
 ·simp[execOp,ho,Instr.box,newVar,newRow]
theorem dO {P:Program} (b:Nat) (t:TypeId) (fz:Nat×Nat): ∀(vs:List Value) (o:Nat) (cur:Array Value) (w:World),w.heap[b]?=some (.cells cur t fz)→o+vs.length≤cur.size→Mk fz cur.size→(∀v∈vs,v.oneCell'=true)→
 ∀(base i:Nat),base+i=o→ ∃w',(storeCells ⟨b,base,none⟩ vs i).run P w= .ok () w'∧w.grownBy w' (some b)∧w'.heap.size=w.heap.size∧
  ∃cur',w'.heap[b]?=some (.cells cur' t fz)∧cur'.size=cur.size∧ ∀k,cur'[k]?=if o≤k∧k<o+vs.length then vs[k-o]? else cur[k]?
 |[],o,cur,w,hg,_,_,_,base,i,_=>⟨w,rfl,⟨rfl,rfl,rfl,Nat.le_refl _,fun _ _ _=>rfl⟩,rfl,cur,hg,rfl,fun k=>by simp;omega⟩
 |v::vs,o,cur,w,hg,hl,ht,h1,base,i,hbi=>by
  simp only[List.length_cons]at hl
  have hcell:w.cell? ⟨b,o,none⟩=some cur[o]:=by simp[World.cell?,hg]
  have hfr:w.frozen? ⟨b,o,none⟩=false:=by
   have:=ht o qD
   simp only[World.frozen?,hg]
   simp only[not_and,Nat.not_lt]at this
   by_cases hx:fz.1≤o
   ·simp[this hx]
   ·simp[hx]
  have hst:(store (⟨b,o,none⟩:Addr) v).run P w= .ok () (w.setCell ⟨b,o,none⟩ v):=by
   rw[run_store P w _ v _ (h1 v List.mem_cons_self),hcell,hfr]
   simp
  have hg':(w.setCell ⟨b,o,none⟩ v).heap[b]?=some (.cells (cur.setIfInBounds o v) t fz):=by
   simp[World.setCell,Array.getElem?_modify,hg]
  obtain⟨w',hr,g,hs,cur',h2,h3,h4⟩:=dO (P:=P) b t fz vs (o+1) (cur.setIfInBounds o v) (w.setCell ⟨b,o,none⟩ v) hg' qH (by simpa using ht) (fun u hu=>h1 u (List.mem_cons_of_mem _ hu)) base (i+1) qD
  refine⟨w',?_,⟨g.os,g.tape,g.output,by have:=g.size;simpa using this,fun k hk hne=>?_⟩,Qx,cur',h2,by simpa using h3,fun k=>?_⟩
  ·simp only[storeCells,addr_add,hbi]
   simp[hst,hr]
  ·rw[g.block k qaZ hne]
   exact Below.heap_setCell _ _ _ _ (fun e=>hne (by rw[e]))
  ·rw[h4 k]
   simp only[List.length_cons]
   by_cases hk:k=o
   ·subst hk
    rw[if_neg qD,if_pos qD,Array.getElem?_setIfInBounds]
    simp
    omega
   ·by_cases hk2:o+1≤k∧k<o+1+vs.length
    ·rw[if_pos hk2,if_pos qD]
     obtain⟨j,rfl⟩: ∃j,k=o+1+j:=⟨k-(o+1),qD⟩
     have e1:o+1+j-(o+1)=j:=by omega
     have e2:o+1+j-o=j+1:=by omega
     rw[e1,e2]
     simp
    ·rw[if_neg hk2,if_neg qD]
     rw[Array.getElem?_setIfInBounds,if_neg (fun e=>hk e.symm)]
theorem xB {P:Program} {t:TypeId} {n:Nat} (hn:eSz P t=some n) {v:Value} (hv:v.cells.size=n) (b off:Nat) (w:World):
 (Instr.storeAt t (.pointer (some ⟨b,off,none⟩)) v).run P w=(storeCells ⟨b,off,none⟩ v.cells.toList).run P w:=by
 simp[Instr.storeAt,Instr.sureAddr,storeVar,run_sizeOf hn,hv]
theorem HS {t:TypeId} {n id off:Nat} {ty:TypeId} {cells:List V} {y z:Operand} (ho:o.op= .store t y z) (hdst:o.dst=none) (hn:eSz C.P t=some n)
 (hy:ev true st y=some (.bp id off)) (hl:look id st.aD=some (.box ty cells)) (hz:ev true st z=some x) (h1:(bH x).all jK=true) (hlen:(bH x).length=n) (hfit:off+n≤cells.length):
 j6 C o st {st with aD:=place id (.box ty (cells.take off++bH x++cells.drop (off+n))) st.aD} True:=by
 intro ok h a w r _
 obtain⟨h2,h3⟩:=iH h1 (aT rfl r hz)
 have e1:=aT rfl r hy
 generalize hv:a.eval y=v at e1
 cases e1 with
 |bp _ _ b hb=>
  obtain⟨b',cs,h4,h5,h6,h7⟩:=r.mem.obj id _ hl
  obtain rfl:b'=b:=by rw[h4]at hb;exact Option.some.inj hb
  obtain⟨w',hr,g,hs,cur',h8,h9,h10⟩:=dO (P:=C.P) b' ty (0,0) (a.eval z).cells.toList off cs w h5 qH (fun o ho=>by simp) (fun u hu=>by
   obtain⟨k,hk⟩:=List.mem_iff_getElem?.1 hu
   have hk':(a.eval z).cells[k]?=some u:=by simpa using hk
   have hkl:k<(bH x).length:=by rw[←h2];exact(Array.getElem?_eq_some_iff.1 hk').1
   obtain⟨u',h11,_,h12⟩:=h3 k _ (List.getElem?_eq_getElem hkl)
   rw[hk']at h11;cases h11;exact h12) off 0 rfl
  have hokb: ∀k,ok k→w'.heap[k]?=w.heap[k]?:=fun k hk=>g.block k (r.mem.okb k hk).1 (fun e=>by cases e;exact(r.mem.blk id _ b' hl h4).2.1 hk)
  refine⟨.skip,w',ok,h,?_,undef,.inr ⟨rfl,rfl⟩,?_⟩
  ·simp[execOp,ho,hv,xB hn (by omega:(a.eval z).cells.size=n),hr]
  ·rw[hdst]
   refine⟨r.mem.write hl h4 g hs ⟨b',cur',h4,h8,?_,fun k u hk=>?_⟩,r.defers,r.nt,r.pin,fun i u hu=>?_⟩
   ·simp only[List.length_append,List.length_take,List.length_drop]
    omega
   ·rw[h10 k]
    simp only[List.length_append,Array.length_toList]at hk⊢
    by_cases hk1:k<off
    ·rw[if_neg qD]
     rw[List.append_assoc,List.getElem?_append_left qH,List.getElem?_take,if_pos hk1]at hk
     obtain⟨v,h11,h12⟩:=h7 k u hk
     exact⟨v,h11,h12.mono hokb fun _ hb=>hb⟩
    ·by_cases hk2:k<off+n
     ·rw[if_pos qD]
      rw[List.append_assoc,List.getElem?_append_right qH,List.getElem?_append_left qH]at hk
      simp only[List.length_take]at hk
      rw[Nat.min_eq_left qD]at hk
      obtain⟨v,h11,h12,_⟩:=h3 _ u hk
      exact⟨v,by simpa using h11,h12.mono hokb fun _ hb=>hb⟩
     ·rw[if_neg qD]
      rw[List.append_assoc,List.getElem?_append_right qH,List.getElem?_append_right qH,List.getElem?_drop]at hk
      simp only[List.length_take]at hk
      rw[Nat.min_eq_left qD,hlen,show off+n+(k-off-n)=k by omega]at hk
      obtain⟨v,h11,h12⟩:=h7 k u hk
      exact⟨v,h11,h12.mono hokb fun _ hb=>hb⟩
   ·obtain⟨h11,v,h12,h13⟩:=r.slot i u hu
    exact⟨h11,v,h12,h13.mono hokb fun _ hb=>hb⟩
end
end Go.Lw
namespace Go.Lw
open Go.RowKit
def lH (w:World) (ok:Nat→Prop) (sz:Nat) (es:List (List D)) (cur:Array Value):Prop:=
 ∀(i:Nat) (l:List D),es[i]?=some l→l.length=sz∧ ∀(k:Nat) (d:D),l[k]?=some d→ ∃v,cur[i*sz+k]?=some v∧RdD w ok d v
section
variable {C:Ctx} {st:St} {ok:Nat→Prop} {h:Nat→Hd} {a:Act} {w w':World} {o:Oper} {x:V} {p:Prop}
theorem lH.mono {w w':World} {ok ok':Nat→Prop} {sz:Nat} {es:List (List D)} {cur:Array Value} (hw: ∀b,ok b→w'.heap[b]?=w.heap[b]?) (ho: ∀b,ok b→ok' b) (hx:lH w ok sz es cur):lH w' ok' sz es cur:=
 fun i l hi=>⟨(hx i l hi).1,fun k d hk=>let⟨v,hv,hr⟩:=(hx i l hi).2 k d hk;⟨v,hv,hr.mono hw ho⟩⟩
theorem HT (r:Rep C st ok h a w) (hlt: ∀b,C.zE b→b<C.w0.heap.size) {id:Nat} (hid:id<100000) (hf:bK id st=true) (e:TypeId) {sz cap:Nat} {es:List (List D)} {z:List D} {cur:Array Value} (hcap:cap≤maxLen) (hle:es.length≤cap) (hsz:cur.size=cap*sz)
 (ho:lH w ok sz es cur):Rep C {st with aD:=place id (.own e sz (true,z) es) st.aD} ok (upd h id ⟨some w.heap.size,cap,sz⟩) a (w.alloc (.cells cur e)):=by
 refine r.new hlt hid hf _ _ _ rfl ⟨Qz,by rw[aM];exact hcap,.inr ⟨w.heap.size,cur,(0,0),Qz,heap_alloc_new w _,fun o _=>by simp,fun _=>rfl,by rw[aM];exact hle,by rw[aM];exact hsz,?_⟩⟩
 exact ho.mono (fun b hb=>Below.heap_alloc w _ b (r.mem.okb b hb).1) fun _ hb=>hb
theorem Bt (z:Array Value) (n k:Nat) (hz:0<z.size) (hk:k<n):(madeCells z n)[k]?=some (z[k%z.size]'(Nat.mod_lt _ hz)):=by
 have:k%z.size<z.size:=Nat.mod_lt _ hz
 simp[madeCells,hk,getElem!_pos,this]
theorem zP (z:Array Value) (n:Nat):(madeCells z n).size=n:=by simp[madeCells]
theorem KA {nt:Nat} (hnt:nt=C.nt) (hc:cS C) {t e sz by_:Nat} {zs:List Value} {y z:Operand} {k k':IntKind} {n:Int} {d:Tmp} (ho:o.op= .makeSlice t y z) (hdst:o.dst=some d)
 (he:bM C.P t=some (e,sz)) (hb:cK C.P e=some by_) (hz:aL C.P e=some zs) (hzs:zs.length=sz) (h0:0<sz) (hy:ev true st y=some (.d (.lit (.int k n)))) (hz':ev true st z=some (.d (.lit (.int k' n)))) (hf:bK d st=true) (hd:d<nt):
 j6 C o st {aO:=place d (.os d n.toNat) st.aO,aD:=place d (.own e sz (true,zs.map D.lit) (List.replicate n.toNat (zs.map D.lit))) st.aD} (0≤n∧(by_:Int)*n≤281474976710656∧n≤9223372036854775807):=by
 intro ok h a w r hp
 obtain⟨h1,h2,h3⟩:=hp
 obtain⟨hu,i,hi,hs⟩:=bF he
 obtain⟨z,hzr,hzl⟩:=dN hz w
 have hiz:i.zero=some z∧i.bytes=by_:=by
  unfold aL at hz
  unfold cK at hb
  simp only at hi
  rw[hi]at hb
  have hbb:=Option.some.inj hb
  refine⟨?_,hbb⟩
  have:(zeroValue e).run C.P w= .ok z w:=hzr
  simp[zeroValue,typeInfo,hi]at this
  split at this<;>simp_all
 have e1:=aX (aT rfl r hy)
 have e2:=aX (aT rfl r hz')
 have hrun:=run_make (P:=C.P) w t e i z hu hi hiz.1 k k' n n h1 (Int.le_refl _) (by rw[hiz.2];exact h2) h3
 have hsize:z.cells.size=sz:=by rw[←hzs,←hzl];simp
 have hn:n.toNat≤maxLen:=by simp only[maxLen];omega
 have rn:=HT (z:=zs.map D.lit) r hc.lt (Nat.lt_of_lt_of_le hd Qd) hf e (sz:=sz) (cap:=n.toNat) (es:=List.replicate n.toNat (zs.map D.lit)) (cur:=madeCells z.cells (n.toNat*i.size)) hn qE (by rw[zP,hs]) (fun j l hj=>by
  rw[List.getElem?_replicate]at hj
  split at hj
  ·rename_i hlt'
   cases hj
   refine⟨by simp[hzs],fun q d hq=>?_⟩
   rw[List.getElem?_map]at hq
   obtain⟨v,hv,hvd⟩:=Option.map_eq_some_iff.1 hq
   subst hvd
   have hqs:q<sz:=by rw[←hzs];exact(List.getElem?_eq_some_iff.1 hv).1
   have hidx:j*sz+q<n.toNat*i.size:=by
    rw[hs]
    have:(j+1)*sz≤n.toNat*sz:=Nat.mul_le_mul_right _ qD
    rw[Nat.add_mul]at this
    simp only at this⊢
    omega
   refine⟨v,?_,.lit v⟩
   rw[Bt _ _ _ qD hidx]
   have hm:(j*sz+q)%z.cells.size=q:=by
    rw[hsize,Nat.mul_add_mod',Nat.mod_eq_of_lt hqs]
   have hzq:z.cells[q]?=some v:=by rw[←hzl,Array.getElem?_toList]at hv;exact hv
   have hql:q<z.cells.size:=by omega
   rw[Array.getElem?_eq_getElem hql]at hzq
   have:=Option.some.inj hzq
   subst this
   congr 1
   exact getElem_congr_idx hm
  ·cases hj)
 refine⟨.value (.slice (some ⟨w.heap.size,0,none⟩) n.toNat n.toNat),w.alloc (.cells (madeCells z.cells (n.toNat*i.size)) e),ok,upd h d ⟨some w.heap.size,n.toNat,sz⟩,?_,.slice (some ⟨w.heap.size,0,none⟩) n.toNat n.toNat,.inl rfl,?_⟩
 ·simp[execOp,ho,e1,e2,hrun]
 ·rw[hdst]
  have hos:RdV (w.alloc (.cells (madeCells z.cells (n.toNat*i.size)) e)) ok (upd h d ⟨some w.heap.size,n.toNat,sz⟩) (.os d n.toNat) (.slice (some ⟨w.heap.size,0,none⟩) n.toNat n.toNat):=by
   have:=RdV.os (w:=w.alloc (.cells (madeCells z.cells (n.toNat*i.size)) e)) (ok:=ok) (h:=upd h d ⟨some w.heap.size,n.toNat,sz⟩) d n.toNat qaW
   rw[aM]at this
   exact this
  exact rn.put (d:=some d) (fun u hu=>by rw[←Option.some.inj hu,←hnt];exact hd) hos
def tF (sz:Nat):List (List D)→List (Nat×Option V)→Option (List (List D))
 |es,[]=>some es
 |es,(i,some x)::rest=>match vF (bH x)with
  |some ds=>if(bH x).all jK&&ds.length==sz&&decide (i<es.length)then tF sz (es.set i ds) rest else none
  |none=>none
 |_,(_,none)::_=>none
theorem tG {sz:Nat}: ∀{parts:List (Nat×Option V)} {es es':List (List D)},tF sz es parts=some es'→es'.length=es.length
 |[],es,es',he=>by cases he;rfl
 |(i,some x)::rest,es,es',he=>by
  simp only[tF]at he
  split at he
  ·split at he
   ·rw[tG he];simp
   ·cases he
  ·cases he
 |(_,none)::_,es,es',he=>by cases he
theorem xC {R:Operand→Option V} (hR:fI w ok h a R) {sz:Nat}: ∀{parts:List (Nat×Operand)} {es es':List (List D)} {cur:Array Value},
 tF sz es (parts.map fun q=>(q.1,R q.2))=some es'→lH w ok sz es cur→es.length*sz≤cur.size→
  ∃cur',Instr.fill (fun i=>some (i*sz,sz)) cur (parts.map fun q=>(q.1,a.eval q.2))=some cur'∧cur'.size=cur.size∧lH w ok sz es' cur'
 |[],es,es',cur,he,hr,_=>by
  cases he
  exact⟨cur,rfl,rfl,hr⟩
 |(i,y)::parts,es,es',cur,he,hr,hle=>by
  simp only[List.map_cons]at he⊢
  cases hy:R y with
  |none=>simp[hy,tF]at he
  |some x=>
   rw[hy]at he
   simp only[tF]at he
   split at he
   ·rename_i ds hds
    split at he
    ·rename_i hb
     simp only[Bool.and_eq_true,decide_eq_true_eq,beq_iff_eq]at hb
     have hc:=fU hds
     obtain⟨h2,h3⟩:=iH hb.1.1 (hR _ _ hy)
     have hvs:(a.eval y).cells.size=sz:=by rw[h2,hc];simpa using hb.1.2
     have hfit:i*sz+(a.eval y).cells.size≤cur.size:=by
      have:(i+1)*sz≤es.length*sz:=Nat.mul_le_mul_right _ qD
      rw[Nat.add_mul]at this
      omega
     obtain⟨h6,h7⟩:=B2 (i*sz) (a.eval y).cells cur hfit
     have hr':lH w ok sz (es.set i ds) ((a.eval y).cells.zipIdx.foldl (fun cs x=>cs.setIfInBounds (i*sz+x.2) x.1) cur):=by
      intro j l hj
      by_cases hij:j=i
      ·subst hij
       rw[List.getElem?_set_self hb.2]at hj
       cases hj
       refine⟨hb.1.2,fun k d hk=>?_⟩
       have hkl:k<sz:=by rw[←hb.1.2];exact(List.getElem?_eq_some_iff.1 hk).1
       obtain⟨u,h8,h9,_⟩:=h3 k (.d d) (by rw[hc];simp[hk])
       refine⟨u,?_,by cases h9 with|d _ _ h=>exact h⟩
       rw[h7,if_pos qD]
       rw[show j*sz+k-j*sz=k by omega]
       exact h8
      ·rw[List.getElem?_set_ne (fun e=>hij e.symm)]at hj
       obtain⟨h8,h9⟩:=hr j l hj
       refine⟨h8,fun k d hk=>?_⟩
       obtain⟨v,h10,h11⟩:=h9 k d hk
       have hkl:k<sz:=by rw[←h8];exact(List.getElem?_eq_some_iff.1 hk).1
       refine⟨v,?_,h11⟩
       rw[h7,if_neg ?_]
       ·exact h10
       ·intro⟨ha,hb'⟩
        rcases Nat.lt_or_gt_of_ne hij with hlt|hgt
        ·have:(j+1)*sz≤i*sz:=Nat.mul_le_mul_right _ qD
         rw[Nat.add_mul]at this
         omega
        ·have:(i+1)*sz≤j*sz:=Nat.mul_le_mul_right _ qD
         rw[Nat.add_mul]at this
         omega
     obtain⟨cur',h8,h9,h10⟩:=xC hR he hr' (by simp only[List.length_set];rw[h6];exact hle)
     refine⟨cur',?_,by rw[h9,h6],h10⟩
     simp only[Instr.fill]
     rw[if_neg qH]
     exact h8
    ·cases he
   ·cases he
theorem Ms {nt:Nat} (hnt:nt=C.nt) (hc:cS C) {t e sz n:Nat} {zs:List Value} {parts:Array (Nat×Operand)} {es:List (List D)} {d:Tmp} (ho:o.op= .buildSlice t n parts) (hdst:o.dst=some d)
 (he:bM C.P t=some (e,sz)) (hz:aL C.P e=some zs) (hzs:zs.length=sz) (h0:0<sz) (hn:n*sz≤16777216) (hes:tF sz (List.replicate n (zs.map D.lit)) (parts.toList.map fun q=>(q.1,ev true st q.2))=some es)
 (hf:bK d st=true) (hd:d<nt):
 j6 C o st {aO:=place d (.os d n) st.aO,aD:=place d (.own e sz (true,zs.map D.lit) es) st.aD} True:=by
 intro ok h a w r _
 obtain⟨hu,i,hi,hs⟩:=bF he
 simp only at hi hs hu
 obtain⟨z,hzr,hzl⟩:=dN hz w
 have hsize:z.cells.size=sz:=by rw[←hzs,←hzl];simp
 have hnl:n≤n*sz:=Nat.le_mul_of_pos_right n h0
 have hbase:lH w ok sz (List.replicate n (zs.map D.lit)) ((Array.range (n*sz)).map fun k=>z.cells[k%z.cells.size]!):=by
  intro j l hj
  rw[List.getElem?_replicate]at hj
  split at hj
  ·cases hj
   refine⟨by simp[hzs],fun q d hq=>?_⟩
   rw[List.getElem?_map]at hq
   obtain⟨v,hv,hvd⟩:=Option.map_eq_some_iff.1 hq
   subst hvd
   have hqs:q<sz:=by rw[←hzs];exact(List.getElem?_eq_some_iff.1 hv).1
   have hidx:j*sz+q<n*sz:=by
    have:(j+1)*sz≤n*sz:=Nat.mul_le_mul_right _ qD
    rw[Nat.add_mul]at this
    omega
   refine⟨v,?_,.lit v⟩
   have hm:(j*sz+q)%z.cells.size=q:=by
    rw[hsize,Nat.mul_add_mod',Nat.mod_eq_of_lt hqs]
   have hzq:z.cells[q]?=some v:=by rw[←hzl,Array.getElem?_toList]at hv;exact hv
   simp[hidx,hm,getElem!_def,hzq]
  ·cases hj
 obtain⟨cur,h1,h2,h3⟩:=xC (fun y z=>aT rfl r) hes hbase qE
 have hlen:es.length=n:=by rw[tG hes];simp
 have hcur:cur.size=n*sz:=by rw[h2];simp
 have rn:=HT (z:=zs.map D.lit) r hc.lt (Nat.lt_of_lt_of_le hd Qd) hf e (sz:=sz) (cap:=n) (es:=es) (cur:=cur) (by simp only[maxLen];omega) qD hcur h3
 refine⟨.value (.slice (some ⟨w.heap.size,0,none⟩) n n),w.alloc (.cells cur e),ok,upd h d ⟨some w.heap.size,n,sz⟩,?_,.slice (some ⟨w.heap.size,0,none⟩) n n,.inl rfl,?_⟩
 ·have hparts:(parts.map fun q=>(q.1,a.eval q.2)).toList=parts.toList.map fun q=>(q.1,a.eval q.2):=by simp
  have hso:eSz C.P e=some sz:=by unfold eSz;rw[hi];simp[hs]
  have hbig: ¬n*sz>2^24:=by omega
  by_cases hn0:n*sz=0
  ·have hc0:cur.size=0:=by omega
   have harr: ∀zz:Array Value,((Array.range (n*sz)).map fun k=>zz[k%zz.size]!)=((Array.range (n*sz)).map fun k=>z.cells[k%z.cells.size]!):=fun zz=>by
    rw[hn0];simp
   simp only[execOp,ho,Instr.buildSlice,Sem.run_bind,run_underlying hu,Result.andThen_ok,run_sizeOf hso]
   rw[if_neg hbig]
   simp only[hn0,if_true,Sem.run_pure,Sem.run_bind,Result.andThen_ok]
   have h1':=h1
   rw[←harr #[],hn0]at h1'
   simp only[hparts,h1']
   simp[newRow]
  ·simp only[execOp,ho,Instr.buildSlice,Sem.run_bind,run_underlying hu,Result.andThen_ok,run_sizeOf hso]
   rw[if_neg hbig]
   simp only[hn0,if_false,Sem.run_pure,Sem.run_bind,Result.andThen_ok,hzr,hparts,h1]
   simp[newRow]
 ·rw[hdst]
  have hos:RdV (w.alloc (.cells cur e)) ok (upd h d ⟨some w.heap.size,n,sz⟩) (.os d n) (.slice (some ⟨w.heap.size,0,none⟩) n n):=by
   have:=RdV.os (w:=w.alloc (.cells cur e)) (ok:=ok) (h:=upd h d ⟨some w.heap.size,n,sz⟩) d n qaW
   rw[aM]at this
   exact this
  exact rn.put (d:=some d) (fun u hu=>by rw[←Option.some.inj hu,←hnt];exact hd) hos
end
end Go.Lw
