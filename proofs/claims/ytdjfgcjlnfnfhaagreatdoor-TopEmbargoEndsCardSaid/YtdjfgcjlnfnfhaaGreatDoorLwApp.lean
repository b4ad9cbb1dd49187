/- APPENDING, AND STORING INTO A SLICE OF ONE's OWN, on list-level states. -/
import Derived.Test.YtdjfgcjlnfnfhaaGreatDoorLwOwn
import Derived.Deep.Upon
import Derived.Lib.ConvBytes
import Derived.Lib.SlBytesConst
import Derived.Laws.RangeAny
set_option linter.unusedSimpArgs false
set_option linter.unusedVariables false
namespace Go.Lw
open Go.RowKit
section
variable {C:Ctx} {st st':St} {ok:Nat→Prop} {h:Nat→Hd} {a:Act} {w w':World} {o:Oper} {x:V} {p:Prop}
def oX (id:Nat) (x:V):V:=bif bU id x then .any else x
def B4 (id:Nat):O→O
 | .box t cells=> .box t (cells.map (oX id))
 | .cD x v=> .cD (oX id x) v
 |o=>o
def mF (id:Nat) (l:List (Nat×V)):List (Nat×V):=l.map fun p=>(p.1,oX id p.2)
def iI (id:Nat) (l:List (Nat×O)):List (Nat×O):=l.map fun p=>(p.1,B4 id p.2)
theorem jM {α β:Type} (f:α→β) (i:Nat): ∀(l:List (Nat×α)),look i (l.map fun p=>(p.1,f p.2))=(look i l).map f
 |[]=>rfl
 |(j,x)::r=>by
  simp only[List.map_cons,look]
  split
  ·rfl
  ·exact jM f i r
theorem sC (id:Nat) (x:V):bU id (oX id x)=false:=by
 unfold oX
 cases hs:bU id x with
 |true=>simp[bU]
 |false=>simpa using hs
theorem HU (id:Nat) (o:O):(B4 id o).bU id=false:=by
 cases o with
 |own=>rfl
 |raw=>rfl
 |cB=>rfl
 |cD x v=>exact sC id x
 |box t cells=>
  simp only[B4,O.bU]
  induction cells with
  |nil=>rfl
  |cons x r ih=>simp[gH,sC,ih]
theorem RdV.EL {id:Nat} {v:Value} (hx:RdV w ok h x v):RdV w ok h (oX id x) v:=by
 unfold oX
 cases bU id x with
 |true=>exact .any v
 |false=>exact hx
theorem RdO.EL {id j:Nat} {o:O} (hx:RdO w ok h j o):RdO w ok h j (B4 id o):=by
 cases o with
 |own=>exact hx
 |raw=>exact hx
 |cB=>exact hx
 |cD x v=>exact⟨hx.1,hx.2.EL⟩
 |box t cells=>
  obtain⟨b,cs,h1,h2,h3,h4⟩:=hx
  refine⟨b,cs,h1,h2,by simp[h3],fun k x hk=>?_⟩
  rw[List.getElem?_map]at hk
  obtain⟨y,hy,hyx⟩:=Option.map_eq_some_iff.1 hk
  subst hyx
  obtain⟨v,h5,h6⟩:=h4 k y hy
  exact⟨v,h5,h6.EL⟩
theorem kQ {id i:Nat} {l:List (Nat×O)} {o:O} (hl:look i (iI id l)=some o): ∃o',look i l=some o'∧o=B4 id o':=by
 unfold iI at hl
 rw[jM]at hl
 obtain⟨o',h1,h2⟩:=Option.map_eq_some_iff.1 hl
 exact⟨o',h1,h2.symm⟩
theorem zQ {id i:Nat} {l:List (Nat×V)} {x:V} (hl:look i (mF id l)=some x): ∃x',look i l=some x'∧x=oX id x':=by
 unfold mF at hl
 rw[jM]at hl
 obtain⟨o',h1,h2⟩:=Option.map_eq_some_iff.1 hl
 exact⟨o',h1,h2.symm⟩
theorem Mem.EL {aD:List (Nat×O)} (m:Mem C ok h aD w) (id:Nat):Mem C ok h (iI id aD) w:=by
 refine⟨m.os,m.tape,m.output,m.size,m.block,m.okb,fun i o hl=>?_,fun i o b hl=>?_,fun i j o o' b hl hl'=>?_⟩
 ·obtain⟨o',h1,rfl⟩:=kQ hl
  exact(m.obj i o' h1).EL
 ·obtain⟨o',h1,rfl⟩:=kQ hl
  exact m.blk i o' b h1
 ·obtain⟨o1,h1,rfl⟩:=kQ hl
  obtain⟨o2,h2,rfl⟩:=kQ hl'
  exact m.apart i j o1 o2 b h1 h2
def eW (sz:Nat) (es:List (List D)):Prop:= ∀l∈es,l.length=sz∧l.all (fun d=>jK (.d d))=true
def EM (P:Program) (aD:List (Nat×O)) (tx:TypeId) (sz:Nat):Option V→Option (List (List D)×Prop)
 |some (.d (.sl m f))=>(bM P tx).map fun _=>((List.range m).map f,eW sz ((List.range m).map f))
 |some (.os id m)=>match look id aD,bM P tx with
  |some (.own _ _ _ es),some _=>some (es.take m,m≤es.length∧eW sz (es.take m))
  |_,_=>none
 |some (.d (.lit (.string s)))=>if aP P tx&&sz==1 then some (s.data.toList.map aZ,True)else none
 |some (.d (.lit (.slice none 0 0)))=>(bM P tx).map fun _=>([],True)
 |_=>none
def eG (w:World) (ok:Nat→Prop) (sz:Nat) (es:List (List D)) (cs:List Value):Prop:=
 cs.length=es.length*sz∧ ∀(i:Nat) (l:List D),es[i]?=some l→l.length=sz∧ ∀(k:Nat) (d:D),l[k]?=some d→ ∃v,cs[i*sz+k]?=some v∧RdD w ok d v
theorem vK {sz:Nat} {es:List (List D)} {G:Nat→Value} (h0:0<sz) (hr:eW sz es) (hg: ∀(i k:Nat) (l:List D) (d:D),es[i]?=some l→l[k]?=some d→RdD w ok d (G (i*sz+k))):
 eG w ok sz es ((List.range (es.length*sz)).map G)∧ ∀u∈(List.range (es.length*sz)).map G,u.oneCell'=true:=by
 refine⟨⟨qE,fun i l hi=>?_⟩,fun u hu=>?_⟩
 ·have hl:=(hr l (List.mem_of_getElem? hi)).1
  refine⟨hl,fun k d hk=>⟨_,?_,hg i k l d hi hk⟩⟩
  have hk':k<sz:=by rw[←hl];exact(List.getElem?_eq_some_iff.1 hk).1
  have hi':i<es.length:=(List.getElem?_eq_some_iff.1 hi).1
  have:(i+1)*sz≤es.length*sz:=Nat.mul_le_mul_right _ qD
  rw[Nat.add_mul]at this
  rw[List.getElem?_map,List.getElem?_range qD]
  rfl
 ·simp only[List.mem_map,List.mem_range]at hu
  obtain⟨q,hq,rfl⟩:=hu
  have hi:q/sz<es.length:=Nat.div_lt_of_lt_mul (by rw[Nat.mul_comm];exact hq)
  have hm:=hr _ (List.getElem_mem hi)
  have hk:q%sz<(es[q/sz]).length:=by rw[hm.1];exact Nat.mod_lt _ h0
  have hrd:=hg (q/sz) (q%sz) _ _ (List.getElem?_eq_getElem hi) (List.getElem?_eq_getElem hk)
  rw[Nat.div_add_mod']at hrd
  have h1:=List.all_eq_true.1 hm.2 _ (List.getElem_mem hk)
  exact nF (w:=w) (ok:=ok) (h:=fun _=>⟨none,0,0⟩) h1 (.d _ _ hrd)
theorem KB (r:Rep C st ok h a w) {t tx e sz:Nat} {y:Operand} {news:List (List D)} (h0:0<sz) (he:EM C.P st.aD tx sz (ev true st y)=some (news,p)) (hp:p):
 ∃cs,Src C.P sz tx (a.eval y) news.length cs w∧eG w ok sz news cs:=by
 unfold EM at he
 split at he
 ·rename_i m f hy
  obtain⟨q,hq,hx⟩:=Option.map_eq_some_iff.1 he
  obtain⟨rfl,rfl⟩:=Prod.mk.inj hx
  obtain⟨hu,_⟩:=bF hq
  have e1:=aT rfl r hy
  generalize hv:a.eval y=v at e1
  cases e1 with
  |d _ _ hx=>cases hx with
   |sl _ _ A cap size b off g hc hm hA hl hg hd=>
    rcases Nat.eq_zero_or_pos m with rfl|hm0
    ·refine⟨[],?_,by simp[eG]⟩
     cases A with
     |none=>exact⟨.inl ⟨_,hu⟩,fun _=>rfl,QA,QA,qE,fun _ hx=>by cases hx⟩
     |some A=>exact Src.ofSlice w hu A 0 cap [] qE (fun j u hj=>by simp at hj) (fun u hu=>by cases hu)
    ·obtain⟨rfl,hok⟩:=hA hm0
     have hsz:size=sz:=by rw[←hl 0 hm0];exact(hp (f 0) (by simp;exact⟨0,hm0,rfl⟩)).1
     subst hsz
     have hcell: ∀i k,i<m→k<size→w.cell? ⟨b,off+(i*size+k),none⟩=some (g i k):=fun i k hi hk=>by rw[←Nat.add_assoc];exact hg i k hi hk
     let G:Nat→Value:=fun q=>g (q/size) (q%size)
     have hG: ∀i k,i<m→k<size→G (i*size+k)=g i k:=fun i k hi hk=>by
      simp only[G]
      rw[Nat.mul_comm i size,Nat.mul_add_div h0,Nat.div_eq_of_lt hk,Nat.mul_add_mod,Nat.mod_eq_of_lt hk,Nat.add_zero]
     obtain⟨h1,h2⟩:=vK (w:=w) (ok:=ok) (G:=G) h0 hp (fun i k l d hi hk=>by
      simp only[List.getElem?_map,Option.map_eq_some_iff]at hi
      obtain⟨i',hi',rfl⟩:=hi
      obtain⟨hlt,hi'⟩:=List.getElem?_eq_some_iff.1 hi'
      simp at hi' hlt
      subst hi'
      have hkl:k<size:=by rw[←hl i hlt];exact(List.getElem?_eq_some_iff.1 hk).1
      rw[hG i k hlt hkl]
      exact hd i k d hlt hk)
     simp only[List.length_map,List.length_range]at h1 h2⊢
     refine⟨_,Src.ofSlice w hu ⟨b,off,none⟩ m cap ((List.range (m*size)).map G) qE (fun j u hj=>?_) h2,h1⟩
     simp only[List.getElem?_map,Option.map_eq_some_iff]at hj
     obtain⟨q,hq',rfl⟩:=hj
     obtain⟨hlt,hq'⟩:=List.getElem?_eq_some_iff.1 hq'
     simp at hq' hlt
     subst hq'
     rw[addr_add]
     have hi:j/size<m:=Nat.div_lt_of_lt_mul (by rw[Nat.mul_comm];exact hlt)
     have:=hcell (j/size) (j%size) hi (Nat.mod_lt _ h0)
     rw[Nat.div_add_mod']at this
     exact this
 ·rename_i id m hy
  split at he
  ·rename_i e' sz' gr es q hl hq
   obtain⟨rfl,rfl⟩:=Prod.mk.inj (Option.some.inj he)
   obtain⟨hu,_⟩:=bF hq
   obtain⟨hm,hp⟩:=hp
   have e1:=aT rfl r hy
   generalize hv:a.eval y=v at e1
   cases e1 with
   |os _ _ hcap=>
    obtain⟨hsz,hcm,h5⟩:=r.mem.obj id _ hl
    rcases h5 with⟨h6,h7,h8⟩|⟨b,cur,fz,h1,h2,h3,_,h4,h5,h6⟩
    ·subst h7
     obtain rfl:m=0:=by simpa using hm
     refine⟨[],?_,by simp[eG]⟩
     simp only[Hd.addr,h6]
     exact⟨.inl ⟨_,hu⟩,fun _=>rfl,QA,QA,qE,fun _ hx=>by cases hx⟩
    ·have hlen:(es.take m).length=m:=by simp;omega
     rcases Nat.eq_zero_or_pos m with rfl|hm0
     ·refine⟨[],?_,by simp[eG]⟩
      simp only[Hd.addr,h1]
      exact Src.ofSlice w hu _ 0 _ [] qE (fun j u hj=>by simp at hj) (fun u hu=>by cases hu)
     ·have hse:sz'=sz:=by
       have:0<es.length:=by omega
       have h7:=(h6 0 _ (List.getElem?_eq_getElem this)).1
       have h8:=(hp (es[0]) (List.mem_of_getElem? (i:=0) (by rw[List.getElem?_take,if_pos hm0];exact List.getElem?_eq_getElem this))).1
       rw[←h7,←h8]
      subst hse
      let G:Nat→Value:=fun q=>cur.getD q undef
      obtain⟨g1,g2⟩:=vK (w:=w) (ok:=ok) (G:=G) h0 hp (fun i k l d hi hk=>by
       rw[List.getElem?_take]at hi
       split at hi
       ·obtain⟨v,h9,h10⟩:=(h6 i l hi).2 k d hk
        have:G (i*sz'+k)=v:=by simp[G,Array.getD_eq_getD_getElem?,h9]
        rw[this];exact h10
       ·cases hi)
      rw[hlen]at g1 g2⊢
      simp only[Hd.addr,h1]
      refine⟨_,Src.ofSlice w hu _ m _ ((List.range (m*sz')).map G) qE (fun j u hj=>?_) g2,?_⟩
      ·simp only[List.getElem?_map,Option.map_eq_some_iff]at hj
       obtain⟨q,hq',rfl⟩:=hj
       obtain⟨hlt,hq'⟩:=List.getElem?_eq_some_iff.1 hq'
       simp at hq' hlt
       subst hq'
       have:m*sz'≤(h id).cap*sz':=Nat.mul_le_mul_right _ qD
       have hjc:j<cur.size:=by omega
       rw[addr_add]
       simp[World.cell?,h2,G,hjc]
      ·exact g1
  ·cases he
 ·rename_i s hy
  split at he
  ·rename_i hb
   simp only[Bool.and_eq_true,beq_iff_eq]at hb
   obtain⟨hs,rfl⟩:=hb
   obtain⟨rfl,rfl⟩:=Prod.mk.inj (Option.some.inj he)
   have e1:=aX (aT rfl r hy)
   rw[e1]
   have hsrc:=Src.ofString (P:=C.P) w (tx:=tx) (fE hs) s
   have hl:(s.data.toList.map aZ).length=s.size:=by simp
   rw[hl]
   refine⟨_,hsrc,by simp[byteCells_length],fun i l hi=>?_⟩
   rw[List.getElem?_map]at hi
   obtain⟨b,h1,h2⟩:=Option.map_eq_some_iff.1 hi
   subst h2
   refine⟨rfl,fun k d hk=>?_⟩
   cases k with
   |succ k=>simp[aZ]at hk
   |zero=>
    cases hk
    exact⟨.int .u8 (b.toNat:Int),by simp[byteCells,List.getElem?_map];exact⟨b,QR,rfl⟩,.lit _⟩
  ·cases he
 ·rename_i hy
  obtain⟨q,hq,hx⟩:=Option.map_eq_some_iff.1 he
  obtain⟨rfl,rfl⟩:=Prod.mk.inj hx
  obtain⟨hu,_⟩:=bF hq
  have e1:=aX (aT rfl r hy)
  rw[e1]
  exact⟨[],Src.ofNil w hu 0,by simp[eG]⟩
 ·cases he
theorem eG.mono {w w':World} {ok ok':Nat→Prop} {sz:Nat} {es:List (List D)} {cs:List Value} (hw: ∀b,ok b→w'.heap[b]?=w.heap[b]?) (ho: ∀b,ok b→ok' b) (hx:eG w ok sz es cs):eG w' ok' sz es cs:=
 ⟨hx.1,fun i l hi=>⟨(hx.2 i l hi).1,fun k d hk=>let⟨v,hv,hr⟩:=(hx.2 i l hi).2 k d hk;⟨v,hv,hr.mono hw ho⟩⟩⟩
theorem eG.append {sz:Nat} {es fs:List (List D)} {cs ds:List Value} (h1:eG w ok sz es cs) (h2:eG w ok sz fs ds):eG w ok sz (es++fs) (cs++ds):=by
 refine⟨by simp[h1.1,h2.1,Nat.add_mul],fun i l hi=>?_⟩
 by_cases hlt:i<es.length
 ·rw[List.getElem?_append_left hlt]at hi
  obtain⟨h3,h4⟩:=h1.2 i l hi
  refine⟨h3,fun k d hk=>?_⟩
  obtain⟨v,h5,h6⟩:=h4 k d hk
  exact⟨v,by rw[List.getElem?_append_left (List.getElem?_eq_some_iff.1 h5).1];exact h5,h6⟩
 ·rw[List.getElem?_append_right qD]at hi
  obtain⟨h3,h4⟩:=h2.2 _ l hi
  refine⟨h3,fun k d hk=>?_⟩
  obtain⟨v,h5,h6⟩:=h4 k d hk
  obtain⟨j,rfl⟩: ∃j,i=es.length+j:=⟨i-es.length,qD⟩
  rw[show es.length+j-es.length=j by omega]at h5
  refine⟨v,?_,h6⟩
  rw[List.getElem?_append_right (by rw[h1.1,Nat.add_mul];omega),h1.1,Nat.add_mul,show es.length*sz+j*sz+k-es.length*sz=j*sz+k by omega]
  exact h5
theorem eG.own {sz:Nat} {es:List (List D)} {cs:List Value} {cur:Array Value} (hx:eG w ok sz es cs) (hc: ∀q,q<cs.length→cur[q]?=cs[q]?):lH w ok sz es cur:=
 fun i l hi=>⟨(hx.2 i l hi).1,fun k d hk=>by
  obtain⟨v,h1,h2⟩:=(hx.2 i l hi).2 k d hk
  exact⟨v,by rw[hc _ (List.getElem?_eq_some_iff.1 h1).1];exact h1,h2⟩⟩
theorem lH.rows {sz:Nat} {es:List (List D)} {cur:Array Value} (hx:lH w ok sz es cur) {n:Nat} (hn:n≤es.length) (hc:n*sz≤cur.size):eG w ok sz (es.take n) (cur.toList.take (n*sz)):=by
 have hl:(es.take n).length=n:=by simp;omega
 refine⟨by rw[hl];simp;omega,fun i l hi=>?_⟩
 rw[List.getElem?_take]at hi
 split at hi
 ·rename_i hin
  obtain⟨h1,h2⟩:=hx i l hi
  refine⟨h1,fun k d hk=>?_⟩
  obtain⟨v,h3,h4⟩:=h2 k d hk
  refine⟨v,?_,h4⟩
  have hk':k<sz:=by rw[←h1];exact(List.getElem?_eq_some_iff.1 hk).1
  have:(i+1)*sz≤n*sz:=Nat.mul_le_mul_right _ qD
  rw[Nat.add_mul]at this
  rw[List.getElem?_take,if_pos qD]
  simpa using h3
 ·cases hi
theorem jW {P:Program} {t tx ty e:TypeId} {i:TypeInfo} (ht:P.underlying t=some (.slice e)) (hi:P.info? e=some i) {g n cap m:Nat} {cur:Array Value} {fz:Nat×Nat} (hg:w.heap[g]?=some (.cells cur e fz)) (hth:Mk fz cur.size)
 {y:Value} {cs:List Value} (hs:Src P i.size tx y m cs w) (hroom:n+m≤cap) (hcs:cur.size=cap*i.size):
 ∃w',(Builtin.append_ #[t,tx] ty #[.slice (some ⟨g,0,none⟩) n cap,y]).run P w= .ok (.slice (some ⟨g,0,none⟩) (n+m) cap) w'∧w.grownBy w' (some g)∧w'.heap.size=w.heap.size∧
  ∃cur',w'.heap[g]?=some (.cells cur' e fz)∧cur'.size=cur.size∧ ∀k,cur'[k]?=if n*i.size≤k∧k<n*i.size+cs.length then cs[k-n*i.size]? else cur[k]?:=by
 have hfit:n*i.size+cs.length≤cur.size:=by
  rw[hs.newsLen,hcs,←Nat.add_mul]
  exact Nat.mul_le_mul_right _ hroom
 obtain⟨w',hr,h1,h2,cur',h3,h4,h5⟩:=dO (P:=P) g e fz cs (n*i.size) cur w hg hfit hth hs.one (n*i.size) 0 rfl
 refine⟨w',?_,h1,h2,cur',h3,h4,h5⟩
 rcases hs.kind with⟨e',hk⟩|hk<;>simp[Builtin.append_,run_underlying ht,run_underlying hk,sizeOf,typeInfo,hi,hs.len,hroom,hs.cells,addr_add,hr]
theorem xD (hc:cS C) (r:Rep C st ok h a w) {t tx e sz by_ id n:Nat} {zs:List Value} {y z:Operand} {gr:Bool×List D} {es news:List (List D)} {d:Tmp} (ho:o.op= .call {callee:= .builtin .append,args:= #[y,z],argTypes:= #[t,tx]})
 (hdst:o.dst=some d) (he:bM C.P t=some (e,sz)) (hb:cK C.P e=some by_) (hz:aL C.P e=some zs) (hzs:zs.length=sz) (h0:0<sz) (e1:RdV w ok h (.os id n) (a.eval y)) (hl:look id st.aD=some (.own e sz gr es)) (hgr:gr.1=true)
 (hsrc:EM C.P st.aD tx sz (ev true st z)=some (news,p)) (hid:id<100000) (hd:d<C.nt) (hp':p∧n≤es.length∧n+news.length≤9223372036854775807∧(n+news.length)*by_≤140737488355328):
 ∃v w' ok' h',(execOp a.eval o).run C.P w= .ok v w'∧ ∃u,(v= .value u∨(v= .skip∧u=undef))∧Rep C {aO:=place d (.os id (n+news.length)) (mF id st.aO),aD:=place id (.own e sz gr (es.take n++news)) (iI id st.aD)} ok' h' (a.put o.dst u) w':=by
 obtain⟨hp,hn,h63,hbytes⟩:=hp'
 obtain⟨hu,i,hi,hs⟩:=bF he
 simp only at hu hi hs
 obtain⟨zv,hzr,hzl⟩:=dN hz w
 have hiz:i.zero=some zv∧i.bytes=by_:=by
  unfold aL at hz
  unfold cK at hb
  rw[hi]at hb
  have hbb:=Option.some.inj hb
  refine⟨?_,hbb⟩
  have:(zeroValue e).run C.P w= .ok zv w:=hzr
  simp[zeroValue,typeInfo,hi]at this
  split at this<;>simp_all
 obtain⟨cs,hS,hcs⟩:=KB (e:=e) (t:=t) r h0 hsrc hp
 subst hs
 have hsize:zv.cells.size=i.size:=by rw[←hzs,←hzl];simp
 generalize hv:a.eval y=v at e1
 have hmax:n+news.length≤maxLen:=by simp only[maxLen];omega
 cases e1 with
 |os _ _ hcap=>
  obtain⟨hsz,hcm,h5⟩:=r.mem.obj id _ hl
  have hm:=r.mem.EL id
  have hso: ∀j o,j≠id→look j (iI id st.aD)=some o→o.bU id=false:=fun j o _ hj=>by
   obtain⟨o',_,rfl⟩:=kQ hj
   exact HU id o'
  have hlh:look id (iI id st.aD)=some (.own e i.size gr es):=by
   unfold iI
   rw[jM,hl]
   rfl
  have fin: ∀(w':World) (hd':Hd) (cur':Array Value) (b':Nat),(execOp a.eval o).run C.P w= .ok (.value (.slice (some ⟨b',0,none⟩) (n+news.length) hd'.cap)) w'→
   hd'.blk=some b'→hd'.sz=i.size→hd'.cap≤maxLen→n+news.length≤hd'.cap→w'.heap[b']?=some (.cells cur' e (0,0))→cur'.size=hd'.cap*i.size→lH w' ok i.size (es.take n++news) cur'→
   w.grownBy w' (h id).blk→(∀b,hd'.blk=some b→(h id).blk=some b∨(w.heap.size≤b∧b<w'.heap.size))→
   ∃v w' ok' h',(execOp a.eval o).run C.P w= .ok v w'∧ ∃u,(v= .value u∨(v= .skip∧u=undef))∧Rep C {aO:=place d (.os id (n+news.length)) (mF id st.aO),aD:=place id (.own e i.size gr (es.take n++news)) (iI id st.aD)} ok' h' (a.put o.dst u) w':=by
   intro w' hd' cur' b' hrun hb1 hb2 hb3 hb4 hb5 hb6 hb7 g hblk
   have hlen:(es.take n++news).length=n+news.length:=by simp;omega
   have hokb: ∀b,ok b→w'.heap[b]?=w.heap[b]?:=fun b hb=>g.block b (r.mem.okb b hb).1 (fun e=>(r.mem.blk id _ b hl e.symm).2.1 hb)
   have hmem:=hm.step (w':=w') id hd' (.own e i.size gr (es.take n++news)) (h id).blk g (fun b hb=>⟨_,hlh,hb⟩) hblk hso ⟨by rw[aM];exact hb2,by rw[aM];exact hb3,.inr ⟨b',cur',(0,0),by rw[aM];exact hb1,hb5,fun o _=>by simp,fun _=>rfl,by rw[aM,hlen];exact hb4,by rw[aM];exact hb6,hb7⟩⟩ hc.lt
   have hrep:Rep C {aO:=mF id st.aO,aD:=place id (.own e i.size gr (es.take n++news)) (iI id st.aD)} ok (upd h id hd') a w':=by
    refine⟨hmem,r.defers,r.nt,fun j hj=>(bS h id hd' j qD).trans (r.pin j hj),fun j x hx=>?_⟩
    obtain⟨x',h6,rfl⟩:=zQ hx
    obtain⟨h7,u,h8,h9⟩:=r.slot j x' h6
    exact⟨h7,u,h8,(h9.EL.mono hokb fun _ hb=>hb).swap (bS h id hd') (sC id x')⟩
   refine⟨_,w',ok,upd h id hd',hrun,_,.inl rfl,?_⟩
   rw[hdst]
   have hos:RdV w' ok (upd h id hd') (.os id (n+news.length)) (.slice (some ⟨b',0,none⟩) (n+news.length) hd'.cap):=by
    have:=RdV.os (w:=w') (ok:=ok) (h:=upd h id hd') id (n+news.length) (by rw[aM];exact hb4)
    rw[aM]at this
    simpa[Hd.addr,hb1]using this
   exact hrep.put (d:=some d) (fun u hu=>by rw[←Option.some.inj hu];exact hd) hos
  have nothing:news.length=0→ ∃v w' ok' h',(execOp a.eval o).run C.P w= .ok v w'∧ ∃u,(v= .value u∨(v= .skip∧u=undef))∧Rep C {aO:=place d (.os id (n+news.length)) (mF id st.aO),aD:=place id (.own e i.size gr (es.take n++news)) (iI id st.aD)} ok' h' (a.put o.dst u) w':=by
   intro hn0
   obtain rfl:news=[]:=List.eq_nil_of_length_eq_zero hn0
   obtain rfl:cs=[]:=List.eq_nil_of_length_eq_zero (by simpa using hcs.1)
   refine⟨.value (.slice (h id).addr n (h id).cap),w,ok,h,?_,_,.inl rfl,?_⟩
   ·have hrun:=run_append_nothing (P:=C.P) w t tx o.type e i hu hi (h id).addr n (h id).cap hcap (a.eval z) hS
    simp[execOp,ho,resolve,invoke,builtin,hv,hrun]
   ·rw[hdst]
    have hos:RdV w ok h (.os id (n+([]:List (List D)).length)) (.slice (h id).addr n (h id).cap):= .os id n hcap
    refine Rep.put (st:={aO:=mF id st.aO,aD:=place id (.own e i.size gr (es.take n++[])) (iI id st.aD)}) (d:=some d) ?_ (fun u hu=>by rw[←Option.some.inj hu];exact hd) hos
    refine⟨?_,r.defers,r.nt,r.pin,fun j x hx=>?_⟩
    ·refine⟨hm.os,hm.tape,hm.output,hm.size,hm.block,hm.okb,fun j o1 hj=>?_,fun j o1 b hj hb=>?_,fun j j' o1 o2 b hj hj' hne hb=>?_⟩
     ·rw[a8]at hj
      split at hj
      ·rename_i e'
       subst e';cases hj
       rw[List.append_nil]
       refine⟨hsz,hcm,?_⟩
       rcases h5 with⟨h6,h7,h8⟩|⟨b',cur,fz,h6,h7,h8,h8',h9,h10,h11⟩
       ·exact .inl ⟨h6,by rw[h7];simp,h8⟩
       ·exact .inr ⟨b',cur,fz,h6,h7,h8,h8',qH,h10,fun k l hk=>by
         rw[List.getElem?_take]at hk
         split at hk
         ·exact h11 k l hk
         ·cases hk⟩
      ·exact hm.obj j o1 hj
     ·rw[a8]at hj
      split at hj
      ·rename_i e'
       subst e'
       exact hm.blk _ _ b hlh hb
      ·exact hm.blk j o1 b hj hb
     ·rw[a8]at hj hj'
      have key: ∀j o1,(if id=j then some (O.own e i.size gr (es.take n++[]))else look j (iI id st.aD))=some o1→ ∃o2,look j (iI id st.aD)=some o2:=fun j o1 hj=>by
       split at hj
       ·rename_i e'
        subst e';exact⟨_,hlh⟩
       ·exact⟨_,hj⟩
      obtain⟨o3,h12⟩:=key j o1 hj
      obtain⟨o4,h13⟩:=key j' o2 hj'
      exact hm.apart j j' o3 o4 b h12 h13 hne hb
    ·obtain⟨x',h6,rfl⟩:=zQ hx
     obtain⟨h7,u,h8,h9⟩:=r.slot j x' h6
     exact⟨h7,u,h8,h9.EL⟩
  have grow: ∀(A:Option Addr) (olds:List Value),(h id).addr=A→(Builtin.firstCells i.size n (.slice A n (h id).cap)).run C.P w.drew= .ok olds.toArray w.drew→(h id).cap<n+news.length→eG w ok i.size (es.take n) olds→
   ∃v w' ok' h',(execOp a.eval o).run C.P w= .ok v w'∧ ∃u,(v= .value u∨(v= .skip∧u=undef))∧Rep C {aO:=place d (.os id (n+news.length)) (mF id st.aO),aD:=place id (.own e i.size gr (es.take n++news)) (iI id st.aD)} ok' h' (a.put o.dst u) w':=by
   intro A olds hA hold hg hrd
   have hrun:=run_append_grow_src (P:=C.P) w t tx o.type e i zv hu hi hiz.1 A n (h id).cap olds hold (a.eval z) news.length cs hS hg qD (growslice_fits hg (by rw[hiz.2];exact hbytes))
   have hge:=grownCap_ge w (n+news.length) (h id).cap e
   have hcm':=grownCap_le_maxLen w (n+news.length) (h id).cap e hmax
   have hrl:=hrd.1
   have hcl:=hcs.1
   have hL:(olds++cs).length=(n+news.length)*i.size:=by
    rw[List.length_append,hrl,hcl,List.length_take,Nat.min_eq_left hn,Nat.add_mul]
   have hall: ∀b,ok b→(w.drew.alloc (.cells ((olds++cs).toArray++Builtin.zeroCells zv.cells (grownCap w (n+news.length) (h id).cap e-(n+news.length))) e)).heap[b]?=w.heap[b]?:=fun b hb=>Below.heap_alloc w.drew _ b (r.mem.okb b hb).1
   refine fin (w.drew.alloc (.cells ((olds++cs).toArray++Builtin.zeroCells zv.cells (grownCap w (n+news.length) (h id).cap e-(n+news.length))) e)) ⟨some w.heap.size,grownCap w (n+news.length) (h id).cap e,i.size⟩ _ w.heap.size ?_ rfl rfl hcm' hge (heap_alloc_new w.drew _) ?_ ?_ ?_ ?_
   ·simp only[execOp,ho,resolve,invoke,builtin,Sem.run_bind,Sem.run_pure,Result.andThen_ok,List.map_toArray,List.map_cons,List.map_nil,hv,hA,hrun]
   ·simp only[Array.size_append,List.size_toArray,hL,size_zeroCells,hsize,←Nat.add_mul]
    congr 1
    omega
   ·refine((hrd.append hcs).own (cur:=(olds++cs).toArray++Builtin.zeroCells zv.cells (grownCap w (n+news.length) (h id).cap e-(n+news.length))) (fun q hq=>?_)).mono hall fun _ hb=>hb
    rw[Array.getElem?_append_left (by simpa using hq),List.getElem?_toArray]
   ·exact⟨rfl,rfl,rfl,qE,fun k hk _=>Below.heap_alloc w.drew _ k hk⟩
   ·intro b hb
    cases hb
    exact .inr ⟨Nat.le_refl _,qE⟩
  rcases h5 with⟨h6,h7,h8⟩|⟨b',cur,fz,h6,h7,h8,h8',h9,h10,h11⟩
  ·subst h7
   obtain rfl:n=0:=by simpa using hn
   rcases Nat.eq_zero_or_pos news.length with hn0|hn0
   ·exact nothing hn0
   ·refine grow none [] (by simp[Hd.addr,h6]) ?_ qD (by simp[eG])
    simp[Builtin.firstCells]
  ·obtain rfl:=h8' hgr
   by_cases hroom:n+news.length≤(h id).cap
   ·obtain⟨w',hrun,g,hsz',cur',h12,h13,h14⟩:=jW (P:=C.P) (ty:=o.type) hu hi h7 h8 hS hroom h10
    have hokb: ∀b,ok b→w'.heap[b]?=w.heap[b]?:=fun b hb=>g.block b (r.mem.okb b hb).1 (fun e=>(r.mem.blk id _ b hl (by rw[h6,←e])).2.1 hb)
    refine fin w' (h id) cur' b' ?_ h6 hsz hcm hroom h12 qD ?_ (by rw[h6];exact g) (fun b hb=> .inl hb)
    ·simp only[execOp,ho,resolve,invoke,builtin,Sem.run_bind,Sem.run_pure,Result.andThen_ok,List.map_toArray,List.map_cons,List.map_nil,hv,Hd.addr,h6,Option.map_some,hrun]
    ·have hncap:n*i.size≤cur.size:=by rw[h10];exact Nat.mul_le_mul_right _ qD
     have hrows:=lH.rows (w:=w) (ok:=ok) h11 hn hncap
     have hrl:=hrows.1
     refine((hrows.append hcs).own (cur:=cur') (fun q hq=>?_)).mono hokb fun _ hb=>hb
     have hcl:=hcs.1
     have htl:(cur.toList.take (n*i.size)).length=n*i.size:=by simp;omega
     rw[h14 q]
     simp only[List.length_append]at hq
     by_cases hq1:q<n*i.size
     ·rw[if_neg qD,List.getElem?_append_left qD,List.getElem?_take,if_pos hq1]
      simp
     ·rw[if_pos qD,List.getElem?_append_right qD,htl]
   ·have hncap:n*i.size≤cur.size:=by rw[h10];exact Nat.mul_le_mul_right _ qD
    have hrows:=lH.rows (w:=w) (ok:=ok) h11 hn hncap
    refine grow (some ⟨b',0,none⟩) (cur.toList.take (n*i.size)) (by simp[Hd.addr,h6]) ?_ qD hrows
    refine run_firstCells_some w.drew i.size n ⟨b',0,none⟩ n (h id).cap _ qH (fun j u hj=>?_)
    rw[List.getElem?_take]at hj
    split at hj
    ·rw[addr_add]
     have:w.drew.heap[b']?=some (.cells cur e (0,0)):=h7
     have hj':cur[j]?=some u:=by simpa using hj
     simp only[World.cell?,Nat.zero_add,this]
     exact hj'
    ·cases hj
theorem EN {nt:Nat} (hnt:nt=C.nt) (hc:cS C) {t tx e sz by_ id n:Nat} {zs:List Value} {y z:Operand} {gr:Bool×List D} {es news:List (List D)} {d:Tmp} (ho:o.op= .call {callee:= .builtin .append,args:= #[y,z],argTypes:= #[t,tx]})
 (hdst:o.dst=some d) (he:bM C.P t=some (e,sz)) (hb:cK C.P e=some by_) (hz:aL C.P e=some zs) (hzs:zs.length=sz) (h0:0<sz) (hy:ev true st y=some (.os id n)) (hl:look id st.aD=some (.own e sz gr es)) (hgr:gr.1=true)
 (hsrc:EM C.P st.aD tx sz (ev true st z)=some (news,p)) (hid:id<100000) (hd:d<nt):
 j6 C o st {aO:=place d (.os id (n+news.length)) (mF id st.aO),aD:=place id (.own e sz gr (es.take n++news)) (iI id st.aD)}
  (p∧n≤es.length∧n+news.length≤9223372036854775807∧(n+news.length)*by_≤140737488355328):=
 fun ok h a w r hp=>xD hc r ho hdst he hb hz hzs h0 (aT rfl r hy) hl hgr hsrc hid (hnt▸hd) hp
theorem C4 {t:TypeId} {n id j off:Nat} {e:TypeId} {sz:Nat} {gr:Bool×List D} {es:List (List D)} {ds:List D} {y z:Operand} (ho:o.op= .store t y z) (hdst:o.dst=none) (hn:eSz C.P t=some n)
 (hy:ev true st y=some (.el id j off)) (hl:look id st.aD=some (.own e sz gr es)) (hz:ev true st z=some x) (h1:(bH x).all jK=true) (hds:vF (bH x)=some ds) (hlen:(bH x).length=n) (hfit:off+n≤sz):
 j6 C o st {st with aD:=place id (.own e sz gr (es.set j ((es.getD j gr.2).take off++ds++(es.getD j gr.2).drop (off+n)))) st.aD} (j<es.length):=by
 intro ok h a w r hj
 obtain⟨h2,h3⟩:=iH h1 (aT rfl r hz)
 have hcd:=fU hds
 have e1:=aT rfl r hy
 generalize hv:a.eval y=v at e1
 cases e1 with
 |el _ _ _ b hb=>
  obtain⟨hsz,hcm,h5⟩:=r.mem.obj id _ hl
  rcases h5 with⟨h6,_⟩|⟨b',cur,fz,h4,h5,hth,hgz,hcap,hcs,h7⟩
  ·rw[h6]at hb;cases hb
  obtain rfl:b'=b:=by rw[h4]at hb;exact Option.some.inj hb
  have hbound:(j+1)*sz≤(h id).cap*sz:=Nat.mul_le_mul_right _ qD
  rw[Nat.add_mul]at hbound
  obtain⟨w',hr,g,hs,cur',h8,h9,h10⟩:=dO (P:=C.P) b' e fz (a.eval z).cells.toList (j*sz+off) cur w h5 qH hth (fun u hu=>by
   obtain⟨k,hk⟩:=List.mem_iff_getElem?.1 hu
   have hk':(a.eval z).cells[k]?=some u:=by simpa using hk
   have hkl:k<(bH x).length:=by rw[←h2];exact(Array.getElem?_eq_some_iff.1 hk').1
   obtain⟨u',h11,_,h12⟩:=h3 k _ (List.getElem?_eq_getElem hkl)
   rw[hk']at h11;cases h11;exact h12) (j*sz+off) 0 rfl
  have hokb: ∀k,ok k→w'.heap[k]?=w.heap[k]?:=fun k hk=>g.block k (r.mem.okb k hk).1 (fun e=>by cases e;exact(r.mem.blk id _ b' hl h4).2.1 hk)
  have hvs:(a.eval z).cells.toList.length=n:=by simp;omega
  have hdl:ds.length=n:=by rw[hcd]at hlen;simpa using hlen
  refine⟨.skip,w',ok,h,?_,undef,.inr ⟨rfl,rfl⟩,?_⟩
  ·simp[execOp,ho,hv,hsz,xB hn (by omega:(a.eval z).cells.size=n),hr]
  ·rw[hdst]
   refine⟨r.mem.write hl h4 g hs ⟨hsz,hcm,.inr ⟨b',cur',fz,h4,h8,by rw[h9];exact hth,hgz,by simp;exact hcap,by rw[h9];exact hcs,fun i l hi=>?_⟩⟩,r.defers,r.nt,r.pin,fun i u hu=>?_⟩
   ·by_cases hij:i=j
    ·subst hij
     rw[List.getElem?_set_self hj]at hi
     cases hi
     have hrow:es[i]?=some (es.getD i gr.2):=by simp[List.getD,List.getElem?_eq_getElem hj]
     obtain⟨hrl,hrc⟩:=h7 i _ hrow
     generalize es.getD i gr.2=row at hrl hrc⊢
     refine⟨by simp only[List.length_append,List.length_take,List.length_drop];omega,fun k d hk=>?_⟩
     rw[h10]
     by_cases hk1:k<off
     ·rw[if_neg qD]
      rw[List.append_assoc,List.getElem?_append_left qH,List.getElem?_take,if_pos hk1]at hk
      obtain⟨v,h11,h12⟩:=hrc k d hk
      exact⟨v,h11,h12.mono hokb fun _ hb=>hb⟩
     ·by_cases hk2:k<off+n
      ·rw[if_pos qD]
       rw[List.append_assoc,List.getElem?_append_right qH,List.getElem?_append_left qH]at hk
       simp only[List.length_take]at hk
       rw[Nat.min_eq_left qD]at hk
       obtain⟨v,h11,h12,_⟩:=h3 (k-off) (.d d) (by rw[hcd];simp[hk])
       refine⟨v,?_,?_⟩
       ·rw[show i*sz+k-(i*sz+off)=k-off by omega]
        simpa using h11
       ·cases h12 with|d _ _ h=>exact h.mono hokb fun _ hb=>hb
      ·rw[if_neg qD]
       rw[List.append_assoc,List.getElem?_append_right qH,List.getElem?_append_right qH,List.getElem?_drop]at hk
       simp only[List.length_take]at hk
       rw[Nat.min_eq_left qD,hdl,show off+n+(k-off-n)=k by omega]at hk
       obtain⟨v,h11,h12⟩:=hrc k d hk
       exact⟨v,h11,h12.mono hokb fun _ hb=>hb⟩
    ·rw[List.getElem?_set_ne (fun e=>hij e.symm)]at hi
     obtain⟨hrl,hrc⟩:=h7 i l hi
     refine⟨hrl,fun k d hk=>?_⟩
     obtain⟨v,h11,h12⟩:=hrc k d hk
     have hkl:k<sz:=by rw[←hrl];exact(List.getElem?_eq_some_iff.1 hk).1
     refine⟨v,?_,h12.mono hokb fun _ hb=>hb⟩
     rw[h10,if_neg ?_]
     ·exact h11
     ·intro⟨ha,hb'⟩
      rcases Nat.lt_or_gt_of_ne hij with hlt|hgt
      ·have:(i+1)*sz≤j*sz:=Nat.mul_le_mul_right _ qD
       rw[Nat.add_mul]at this
       omega
      ·have:(j+1)*sz≤i*sz:=Nat.mul_le_mul_right _ qD
       rw[Nat.add_mul]at this
       omega
   ·obtain⟨h11,v,h12,h13⟩:=r.slot i u hu
    exact⟨h11,v,h12,h13.mono hokb fun _ hb=>hb⟩
theorem HV {nt:Nat} (hnt:nt=C.nt) (hc:cS C) {s t:TypeId} {y:Operand} {d:Tmp} {l:ByteArray} {e:TypeId} {z:List D} (ho:o.op= .convert s t y) (hdst:o.dst=some d) (hs:aP C.P s=true) (ht:lW C.P t=true) (hte:bM C.P t=some (e,1))
 (hy:ev true st y=some (.d (.lit (.string l)))) (hf:bK d st=true) (hd:d<nt):
 j6 C o st {aO:=place d (.os d l.size) st.aO,aD:=place d (.own e 1 (false,z) (l.data.toList.map aZ)) st.aD} (l.size≤9223372036854775807):=by
 intro ok h a w r hm
 have e1:=aX (aT rfl r hy)
 obtain⟨e',h1,h2,_⟩:=oV ht
 obtain⟨h1',_⟩:=bF hte
 obtain rfl:e'=e:=by rw[h1]at h1';cases h1';rfl
 have hmax:l.size≤maxLen:=by simp only[maxLen];omega
 have hge:=grownCap_ge w l.size 0 e'
 have hle:=grownCap_le_maxLen w l.size 0 e' hmax
 have hid:d<100000:=Nat.lt_of_lt_of_le hd Qd
 have hlt:=hc.lt
 have hcs:(Lib.bytesCells w e' l).size=grownCap w l.size 0 e':=by
  simp only[Lib.bytesCells,Array.size_append,Array.size_map,Array.size_replicate,ByteArray.size]at hge⊢
  omega
 have hsz:=Lib.bytesWorld_size w e' l
 have hold: ∀k,k<w.heap.size→(Lib.bytesWorld w e' l).heap[k]?=w.heap[k]?:=fun k hk=>Lib.bytesWorld_at_old w e' l k hk
 have hg:w.grownBy (Lib.bytesWorld w e' l) none:=⟨rfl,rfl,rfl,qD,fun k hk _=>hold k hk⟩
 have hrow:RdO (Lib.bytesWorld w e' l) ok (upd h d ⟨some w.heap.size,grownCap w l.size 0 e',1⟩) d (.own e' 1 (false,z) (l.data.toList.map aZ)):=by
  refine⟨Qz,by rw[aM];exact hle,.inr ⟨w.heap.size,Lib.bytesCells w e' l,_,Qz,Lib.bytesWorld_at_new w e' l,(fun o ho hx=>by omega),(fun hx=>by cases hx),(by rw[aM,List.length_map,Array.length_toList];exact hge),(by rw[aM,hcs];simp),fun i row hi=>?_⟩⟩
  rw[List.getElem?_map]at hi
  obtain⟨b,hb,hbr⟩:=Option.map_eq_some_iff.1 hi
  subst hbr
  refine⟨rfl,fun k x hk=>?_⟩
  cases k with
  |succ k=>simp[aZ]at hk
  |zero=>
   cases hk
   refine⟨.int .u8 (b.toNat:Int),?_,.lit _⟩
   have hil:i<l.data.size:=by have:=(List.getElem?_eq_some_iff.1 hb).1;simpa using this
   simp only[Lib.bytesCells]
   rw[Array.getElem?_append_left (by rw[Array.size_map];omega)]
   have hb':l.data[i]?=some b:=by simpa using hb
   simp[hb']
 refine⟨.value (.slice (some ⟨w.heap.size,0,none⟩) l.size (grownCap w l.size 0 e')),Lib.bytesWorld w e' l,ok,upd h d ⟨some w.heap.size,grownCap w l.size 0 e',1⟩,?_,.slice (some ⟨w.heap.size,0,none⟩) l.size (grownCap w l.size 0 e'),.inl rfl,?_⟩
 ·simp only[execOp,ho,e1,Sem.run_bind]
  rw[Lib.run_convert_string_bytes w s t e' l (fE hs) h1 h2]
  rfl
 ·have hmem:=r.mem.step (w':=Lib.bytesWorld w e' l) d ⟨some w.heap.size,grownCap w l.size 0 e',1⟩ _ none hg (fun b hb=>by cases hb) (fun b hb=> .inr (by cases hb;exact⟨Nat.le_refl _,qD⟩)) (fun j o hj hl=>kE hf hj hl) hrow hlt
  have hrep:Rep C {st with aD:=place d (.own e' 1 (false,z) (l.data.toList.map aZ)) st.aD} ok (upd h d ⟨some w.heap.size,grownCap w l.size 0 e',1⟩) a (Lib.bytesWorld w e' l):=
   ⟨hmem,r.defers,r.nt,fun j hj=>(bS h d _ j (fun e=>Nat.lt_irrefl _ (Nat.lt_of_le_of_lt (e▸hj) hid))).trans (r.pin j hj),fun j x hx=>by
     obtain⟨h7,u,h8,h9⟩:=r.slot j x hx
     exact⟨h7,u,h8,(h9.mono (fun b hb=>hold b (r.mem.okb b hb).1) fun _ hb=>hb).swap (bS h d _) (iX hf hx)⟩⟩
  rw[hdst]
  have hos:RdV (Lib.bytesWorld w e' l) ok (upd h d ⟨some w.heap.size,grownCap w l.size 0 e',1⟩) (.os d l.size) (.slice (some ⟨w.heap.size,0,none⟩) l.size (grownCap w l.size 0 e')):=by
   have:=RdV.os (w:=Lib.bytesWorld w e' l) (ok:=ok) (h:=upd h d ⟨some w.heap.size,grownCap w l.size 0 e',1⟩) d l.size (by rw[aM];exact hge)
   rw[aM]at this
   exact this
  exact hrep.put (d:=some d) (fun u hu=>by rw[←Option.some.inj hu,←hnt];exact hd) hos
theorem KC {nt:Nat} (hnt:nt=C.nt) (hc:cS C) {t:TypeId} {y:Operand} {d:Tmp} {id n:Nat} {e:TypeId} {sz:Nat} {gr:Bool×List D} {es:List (List D)} (ho:o.op= .convert t t y) (hdst:o.dst=some d) (ht:lW C.P t=true)
 (hy:ev true st y=some (.os id n)) (hl:look id st.aD=some (.own e sz gr es)) (hgr:gr.1=true) (hd:d<nt):
 j6 C o st {aO:=place d (.os id n) st.aO,aD:=place id (.own e sz (false,gr.2) es) st.aD} (es≠[]):=by
 intro ok h a w r hne
 have e1:=aT rfl r hy
 obtain⟨e',h1,h2,_⟩:=oV ht
 generalize hv:a.eval y=v at e1
 cases e1 with
 |os _ _ hcap=>
  obtain⟨hsz,hcm,h5⟩:=r.mem.obj id _ hl
  rcases h5 with⟨_,h6,_⟩|⟨b',cur,fz,h4,h5,hth,hgz,hcap',hcs,h7⟩
  ·exact absurd h6 hne
  have hsh:w.shape? b'=some (e,cur.size):=by simp[World.shape?,h5]
  obtain rfl:=hgz hgr
  have hlt:b'<w.heap.size:=(Array.getElem?_eq_some_iff.1 h5).1
  have hfz:(w.freeze ⟨b',cur.size,none⟩ 1).heap[b']?=some (.cells cur e (cur.size,cur.size+1)):=by
   simp only[World.freeze,if_neg (show¬1=0 by decide),Array.getElem?_modify,if_pos,h5,Option.map_some]
   rfl
  have hfo: ∀k,k≠b'→(w.freeze ⟨b',cur.size,none⟩ 1).heap[k]?=w.heap[k]?:=fun k hk=>by
   simp only[World.freeze,if_neg (show¬1=0 by decide),Array.getElem?_modify,if_neg (fun e:b'=k=>hk e.symm)]
  have hfs:(w.freeze ⟨b',cur.size,none⟩ 1).heap.size=w.heap.size:=by simp[World.freeze]
  have hg:w.grownBy (w.freeze ⟨b',cur.size,none⟩ 1) (some b'):=⟨rfl,rfl,rfl,qD,fun k _ hk=>hfo k fun e=>hk (by rw[e])⟩
  have hokb: ∀k,ok k→(w.freeze ⟨b',cur.size,none⟩ 1).heap[k]?=w.heap[k]?:=fun k hk=>hfo k fun e=>(r.mem.blk id _ b' hl h4).2.1 (e▸hk)
  refine⟨.value (.slice (h id).addr n (h id).cap),w.freeze ⟨b',cur.size,none⟩ 1,ok,h,?_,.slice (h id).addr n (h id).cap,.inl rfl,?_⟩
  ·simp[execOp,ho,hv,convert,run_underlying h1,run_underlying h2,Hd.addr,h4,markStringish,hsh]
  ·rw[hdst]
   refine Rep.put (st:={st with aD:=place id (.own e sz (false,gr.2) es) st.aD}) (d:=some d) ⟨r.mem.write hl h4 hg hfs ⟨hsz,hcm,.inr ⟨b',cur,_,h4,hfz,(fun o ho hx=>by omega),(fun hx=>by cases hx),hcap',hcs,fun i l hi=>?_⟩⟩,r.defers,r.nt,r.pin,fun i u hu=>?_⟩ (fun u hu=>by rw[←Option.some.inj hu,←hnt];exact hd) (.os id n hcap)
   ·obtain⟨h8,h9⟩:=h7 i l hi
    exact⟨h8,fun k x hk=>let⟨v,h10,h11⟩:=h9 k x hk;⟨v,h10,h11.mono hokb fun _ hb=>hb⟩⟩
   ·obtain⟨h11,v,h12,h13⟩:=r.slot i u hu
    exact⟨h11,v,h12,h13.mono hokb fun _ hb=>hb⟩
theorem HW {nt:Nat} (hnt:nt=C.nt) (hc:cS C) {t:TypeId} {y:Operand} {d:Tmp} {s:ByteArray} (ho:o.op= .range t y) (hdst:o.dst=some d) (ht:aP C.P t=true) (hy:ev true st y=some (.d (.lit (.string s)))) (hf:bK d st=true) (hd:d<nt):
 j6 C o st {aO:=place d (.bp d 0) st.aO,aD:=place d (.raw (.stringIter s 0)) st.aD} True:=by
 intro ok h a w r _
 have e1:=aX (aT rfl r hy)
 have hid:d<100000:=Nat.lt_of_lt_of_le hd Qd
 have rn:=r.new hc.lt hid hf ⟨some w.heap.size,0,0⟩ (.raw (.stringIter s 0)) (.stringIter s 0) rfl ⟨w.heap.size,Qz,by show(w.heap.push _)[w.heap.size]?=_;simp⟩
 refine⟨.value (.pointer (some ⟨w.heap.size,0,none⟩)),w.alloc (.stringIter s 0),ok,upd h d ⟨some w.heap.size,0,0⟩,?_,_,.inl rfl,?_⟩
 ·simp only[execOp,ho,e1,Sem.run_bind,run_range_string w t s (fE ht)]
  rfl
 ·rw[hdst]
  exact rn.put (d:=some d) (fun u hu=>by rw[←Option.some.inj hu,←hnt];exact hd) (.bp d 0 w.heap.size Qz)
theorem Bu {it:Operand} {d:Tmp} {id pos:Nat} {s:ByteArray} (ho:o.op= .next it true) (hdst:o.dst=some d) (hy:ev true st it=some (.bp id 0)) (hl:look id st.aD=some (.raw (.stringIter s pos))) (hd:d<C.nt):
 j6 C o st (st.put (some d) (.d (.tup [.lit (.bool false)]))) (¬pos<s.size):=by
 intro ok h a w r hp
 have e1:=aT rfl r hy
 generalize hv:a.eval it=v at e1
 cases e1 with
 |bp _ _ b hb=>
  obtain⟨b',h1,h2⟩:=r.mem.obj id _ hl
  obtain rfl:b'=b:=Option.some.inj (h1.symm.trans hb)
  refine⟨.value (.tuple #[.bool false]),w,ok,h,?_,_,.inl rfl,?_⟩
  ·simp[execOp,ho,hv,Instr.next,getObj,Sem.run,h2,hp]
  ·rw[hdst]
   exact r.put (d:=some d) (fun u hu=>by rw[←Option.some.inj hu];exact hd) (.d _ _ (.tup [.lit (.bool false)] #[.bool false] (fun _=> .bool false) rfl (fun i hi=>by match i,hi with|0,_=>rfl) (fun i d hi=>by match i,hi with|0,hi=>cases hi;exact .lit _)))
theorem KD {it:Operand} {d:Tmp} {id pos:Nat} {s:ByteArray} (ho:o.op= .next it true) (hdst:o.dst=some d) (hy:ev true st it=some (.bp id 0)) (hl:look id st.aD=some (.raw (.stringIter s pos))) (hd:d<C.nt):
 j6 C o st {aO:=place d (.d (.tup [.lit (.bool true),.lit (.int .i64 pos),.lit (.int .i32 ((Utf8.decode s pos).1:Int))])) st.aO,aD:=place id (.raw (.stringIter s (pos+(Utf8.decode s pos).2))) st.aD} (pos<s.size):=by
 intro ok h a w r hp
 have e1:=aT rfl r hy
 generalize hv:a.eval it=v at e1
 cases e1 with
 |bp _ _ b hb=>
  obtain⟨b',h1,h2⟩:=r.mem.obj id _ hl
  obtain rfl:b'=b:=Option.some.inj (h1.symm.trans hb)
  have hlt:b'<w.heap.size:=(Array.getElem?_eq_some_iff.1 h2).1
  let w':World:={w with heap:=w.heap.setIfInBounds b' (.stringIter s (pos+(Utf8.decode s pos).2))}
  have hs:w'.heap.size=w.heap.size:=by simp[w']
  have hne: ∀k,k≠b'→w'.heap[k]?=w.heap[k]?:=fun k hk=>by
   simp only[w',Array.getElem?_setIfInBounds,if_neg (fun e:b'=k=>hk e.symm)]
  have hat:w'.heap[b']?=some (.stringIter s (pos+(Utf8.decode s pos).2)):=by simp[w',Array.getElem?_setIfInBounds,hlt]
  have hg:w.grownBy w' (some b'):=⟨rfl,rfl,rfl,qD,fun k _ hk=>hne k fun e=>hk (by rw[e])⟩
  have hokb: ∀k,ok k→w'.heap[k]?=w.heap[k]?:=fun k hk=>hne k fun e=>(r.mem.blk id _ b' hl h1).2.1 (e▸hk)
  refine⟨.value (.tuple #[.bool true,.int .i64 pos,.int .i32 ((Utf8.decode s pos).1:Int)]),w',ok,h,?_,_,.inl rfl,?_⟩
  ·simp only[execOp,ho,hv,Instr.next,getObj,setObj,Sem.run_bind,Sem.run,h2,Result.andThen,hp,if_true,hlt]
   rfl
  ·rw[hdst]
   refine Rep.put (st:={st with aD:=place id (.raw (.stringIter s (pos+(Utf8.decode s pos).2))) st.aD}) (d:=some d) ⟨r.mem.write hl h1 hg hs ⟨b',h1,hat⟩,r.defers,r.nt,r.pin,fun i u hu=>?_⟩ (fun u hu=>by rw[←Option.some.inj hu];exact hd) (.d _ _ (.tup _ _ (fun i=> #[Value.bool true,.int .i64 pos,.int .i32 ((Utf8.decode s pos).1:Int)].getD i undef) rfl (fun i hi=>by match i,hi with|0,_=>rfl|1,_=>rfl|2,_=>rfl) (fun i d hi=>by match i,hi with|0,hi=>cases hi;exact .lit _|1,hi=>cases hi;exact .lit _|2,hi=>cases hi;exact .lit _)))
   obtain⟨h11,v,h12,h13⟩:=r.slot i u hu
   exact⟨h11,v,h12,h13.mono hokb fun _ hb=>hb⟩
def C5 (s id e:Nat) (z:List D) (st:St):Option St:=
 match look s st.aO with
 |some (.d (.lit (.slice none 0 0)))=>if bK id st&&(look id st.aD).isNone&&decide (id<100000)then some {aO:=place s (.os id 0) st.aO,aD:=place id (.own e z.length (true,z) []) st.aD}else none
 |_=>none
def C6 (b k id e:Nat) (z:List D) (st:St):Option St:=
 match look b st.aD with
 |some (.box t cells)=>match cells[k]? with
  |some (.d (.lit (.slice none 0 0)))=>if bK id st&&(look id st.aD).isNone&&decide (id<100000)then some {aO:=st.aO,aD:=place id (.own e z.length (true,z) []) (place b (.box t (cells.set k (.os id 0))) st.aD)}else none
  |_=>none
 |_=>none
theorem Rep.Mt (r:Rep C st ok h a w) {id e sz:Nat} {z:List D} (hf:bK id st=true) (hnone:look id st.aD=none) (hid:id<100000):Rep C {st with aD:=place id (.own e sz (true,z) []) st.aD} ok (upd h id ⟨none,0,sz⟩) a w:=by
 have hobj: ∀j o,look j (place id (O.own e sz (true,z) []) st.aD)=some o→(id=j∧o= .own e sz (true,z) [])∨(j≠id∧look j st.aD=some o):=fun j o hj=>by
  rw[a8]at hj
  split at hj
  ·rename_i e';exact .inl ⟨e',(Option.some.inj hj).symm⟩
  ·rename_i e';exact .inr ⟨fun e1=>e' e1.symm,hj⟩
 have hm:=r.mem
 refine⟨⟨hm.os,hm.tape,hm.output,hm.size,hm.block,hm.okb,fun j o hj=>?_,fun j o b hj hb=>?_,fun j j' o o' b hj hj' hne hb=>?_⟩,r.defers,r.nt,fun j hj=>(bS h id _ j qD).trans (r.pin j hj),fun j x hx=>?_⟩
 ·rcases hobj j o hj with⟨rfl,rfl⟩|⟨hne,hj⟩
  ·exact⟨Qz,by rw[aM];simp,.inl ⟨Qz,rfl,Qz⟩⟩
  ·exact(hm.obj j o hj).swap (bS h id _) hne (kE hf hne hj)
 ·rcases hobj j o hj with⟨rfl,rfl⟩|⟨hne,hj⟩
  ·rw[aM]at hb;cases hb
  ·rw[bS h id _ j hne]at hb
   exact hm.blk j o b hj hb
 ·rcases hobj j o hj with⟨rfl,rfl⟩|⟨hne1,hj⟩
  ·rw[aM]at hb;cases hb
  ·rw[bS h id _ j hne1]at hb
   rcases hobj j' o' hj' with⟨rfl,rfl⟩|⟨hne2,hj'⟩
   ·rw[aM];intro hx;cases hx
   ·rw[bS h id _ j' hne2]
    exact hm.apart j j' o o' b hj hj' hne hb
 ·obtain⟨h1,v,h2,h3⟩:=r.slot j x hx
  exact⟨h1,v,h2,h3.swap (bS h id _) (iX hf hx)⟩
theorem yJ {nt:Nat} (hnt:nt=C.nt) (hc:cS C) {t tx e sz by_:Nat} {zs:List Value} {y z:Operand} {news:List (List D)} {d:Tmp} (ho:o.op= .call {callee:= .builtin .append,args:= #[y,z],argTypes:= #[t,tx]})
 (hdst:o.dst=some d) (he:bM C.P t=some (e,sz)) (hb:cK C.P e=some by_) (hz:aL C.P e=some zs) (hzs:zs.length=sz) (h0:0<sz) (hy:ev true st y=some (.d (.lit (.slice none 0 0)))) (hf:bK d st=true) (hnone:(look d st.aD).isNone=true)
 (hsrc:EM C.P (place d (.own e sz (true,zs.map D.lit) []) st.aD) tx sz (ev true st z)=some (news,p)) (hd:d<nt):
 j6 C o st {aO:=place d (.os d (0+news.length)) (mF d st.aO),aD:=place d (.own e sz (true,zs.map D.lit) ([]++news)) (iI d (place d (.own e sz (true,zs.map D.lit) []) st.aD))}
  (p∧0+news.length≤9223372036854775807∧(0+news.length)*by_≤140737488355328):=by
 intro ok h a w r ⟨h1,h2,h3⟩
 have hd5:d<100000:=Nat.lt_of_lt_of_le hd Qd
 have rb:=r.Mt (e:=e) (sz:=sz) (z:=zs.map D.lit) hf (by simpa using hnone) hd5
 have e1:=aX (aT rfl r hy)
 have hos:RdV w ok (upd h d ⟨none,0,sz⟩) (.os d 0) (a.eval y):=by
  rw[e1]
  have:=RdV.os (w:=w) (ok:=ok) (h:=upd h d ⟨none,0,sz⟩) d 0 (Nat.zero_le _)
  simpa[aM,Hd.addr]using this
 have:=xD (st:={st with aD:=place d (.own e sz (true,zs.map D.lit) []) st.aD}) hc rb ho hdst he hb hz hzs h0 hos (by rw[a8,if_pos rfl]) rfl hsrc hd5 (hnt▸hd) ⟨h1,qE,h2,h3⟩
 simpa using this
theorem C7 {s id e:Nat} {z:List D} (hb:C5 s id e z st=some st') (r:Rep C st ok h a w): ∃h',Rep C st' ok h' a w:=by
 unfold C5 at hb
 split at hb
 ·rename_i hs
  split at hb
  ·rename_i hc
   simp only[Bool.and_eq_true,decide_eq_true_eq,Option.isNone_iff_eq_none]at hc
   cases hb
   have rb:=r.Mt (e:=e) (sz:=z.length) (z:=z) hc.1.1 hc.1.2 hc.2
   refine⟨_,rb.mem,rb.defers,rb.nt,rb.pin,fun j x hx=>?_⟩
   rw[a8]at hx
   split at hx
   ·rename_i e'
    subst e';cases hx
    obtain⟨h1,v,h2,h3⟩:=r.slot s _ hs
    have e1:=aX h3
    subst e1
    refine⟨h1,_,h2,?_⟩
    have:=RdV.os (w:=w) (ok:=ok) (h:=upd h id ⟨none,0,z.length⟩) id 0 (Nat.zero_le _)
    simpa[aM,Hd.addr]using this
   ·exact rb.slot j x hx
  ·cases hb
 ·cases hb
theorem C8 {b k id e:Nat} {z:List D} (hb:C6 b k id e z st=some st') (r:Rep C st ok h a w): ∃h',Rep C st' ok h' a w:=by
 unfold C6 at hb
 split at hb
 ·rename_i t cells hl
  split at hb
  ·rename_i hk
   split at hb
   ·rename_i hc
    simp only[Bool.and_eq_true,decide_eq_true_eq,Option.isNone_iff_eq_none]at hc
    cases hb
    have hne:b≠id:=fun e'=>by rw[e',hc.1.2]at hl;cases hl
    have rb:=r.Mt (e:=e) (sz:=z.length) (z:=z) hc.1.1 hc.1.2 hc.2
    have hm:=rb.mem
    have hlk: ∀j o,look j (place id (O.own e z.length (true,z) []) (place b (.box t (cells.set k (.os id 0))) st.aD))=some o→
     (j=b∧o= .box t (cells.set k (.os id 0)))∨(j≠b∧look j (place id (O.own e z.length (true,z) []) st.aD)=some o):=fun j o hj=>by
     rw[a8]at hj
     split at hj
     ·rename_i e'
      subst e';cases hj
      exact .inr ⟨fun e'=>hne e'.symm,by rw[a8,if_pos rfl]⟩
     ·rename_i e'
      rw[a8]at hj
      split at hj
      ·rename_i e2;subst e2;cases hj;exact .inl ⟨rfl,rfl⟩
      ·rename_i e2
       exact .inr ⟨fun e3=>e2 e3.symm,by rw[a8,if_neg e'];exact hj⟩
    have hbo:look b (place id (O.own e z.length (true,z) []) st.aD)=some (.box t cells):=by rw[a8,if_neg (fun e'=>hne e'.symm)];exact hl
    have up: ∀j o,look j (place id (O.own e z.length (true,z) []) (place b (.box t (cells.set k (.os id 0))) st.aD))=some o→ ∃o',look j (place id (O.own e z.length (true,z) []) st.aD)=some o':=fun j o hj=>by
     rcases hlk j o hj with⟨rfl,_⟩|⟨_,h1⟩
     ·exact⟨_,hbo⟩
     ·exact⟨_,h1⟩
    refine⟨upd h id ⟨none,0,z.length⟩,⟨hm.os,hm.tape,hm.output,hm.size,hm.block,hm.okb,fun j o hj=>?_,fun j o b' hj hb=>?_,fun j j' o o' b' hj hj' hne' hb=>?_⟩,rb.defers,rb.nt,rb.pin,rb.slot⟩
    ·rcases hlk j o hj with⟨rfl,rfl⟩|⟨_,h1⟩
     ·obtain⟨b',cs,h2,h3,h4,h5⟩:=hm.obj j _ hbo
      refine⟨b',cs,h2,h3,by simp[h4],fun q x hq=>?_⟩
      by_cases hqk:q=k
      ·subst hqk
       obtain⟨v,h6,h7⟩:=h5 q _ hk
       rw[List.getElem?_set_self (List.getElem?_eq_some_iff.1 hk).1]at hq
       cases hq
       have e1:=aX h7
       subst e1
       refine⟨_,h6,?_⟩
       have:=RdV.os (w:=w) (ok:=ok) (h:=upd h id ⟨none,0,z.length⟩) id 0 (Nat.zero_le _)
       simpa[aM,Hd.addr]using this
      ·rw[List.getElem?_set_ne (fun e'=>hqk e'.symm)]at hq
       exact h5 q x hq
     ·exact hm.obj j o h1
    ·obtain⟨o',h1⟩:=up j o hj
     exact hm.blk j o' b' h1 hb
    ·obtain⟨o1,h1⟩:=up j o hj
     obtain⟨o2,h2⟩:=up j' o' hj'
     exact hm.apart j j' o1 o2 b' h1 h2 hne' hb
   ·cases hb
  ·cases hb
 ·cases hb
end
end Go.Lw
