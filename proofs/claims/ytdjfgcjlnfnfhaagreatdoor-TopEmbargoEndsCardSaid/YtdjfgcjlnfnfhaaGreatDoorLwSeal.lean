/- SEALING: an object of one's own that is never written again is data. A slice against nil. -/
import Derived.Test.YtdjfgcjlnfnfhaaGreatDoorLwCode
import Derived.Laws.Cover3
set_option linter.unusedSimpArgs false
set_option linter.unusedVariables false
namespace Go.Lw
open Go.RowKit
def ren (σ:List (Nat×Nat)) (id:Nat):Nat:=(look id σ).getD id
def fJ:List (Nat×Nat)→Nat→Option Nat
 |[],_=>none
 |(a,b)::r,j=>if b=j then some a else fJ r j
mutual
def gJ (σ:List (Nat×Nat)):V→V
 | .d x=> .d x
 | .bp id off=> .bp (ren σ id) off
 | .el id i off=> .el (ren σ id) i off
 | .os id n=> .os (ren σ id) n
 | .ot id lo n=> .ot (ren σ id) lo n
 | .mp id=> .mp (ren σ id)
 | .fS cs=> .fS (rM σ cs)
 | .gG cs=> .gG (rM σ cs)
 | .eR f cs=> .eR f (rM σ cs)
 | .when g x=> .when g (gJ σ x)
 | .any=> .any
def rM (σ:List (Nat×Nat)):List V→List V
 |[]=>[]
 |x::r=>gJ σ x::rM σ r
end
def vO (σ:List (Nat×Nat)):O→O
 | .box t cells=> .box t (rM σ cells)
 | .own e sz gr es=> .own e sz gr es
 | .raw ob=> .raw ob
 | .cB kd L=> .cB kd L
 | .cD x v=> .cD (gJ σ x) v
theorem cT (σ:List (Nat×Nat)): ∀cs:List V,rM σ cs=cs.map (gJ σ)
 |[]=>rfl
 |x::r=>by simp[rM,cT σ r]
theorem tL {σ:List (Nat×Nat)} {cs:List V} {i:Nat} {x:V} (hi:(rM σ cs)[i]?=some x): ∃y,cs[i]?=some y∧x=gJ σ y:=by
 rw[cT,List.getElem?_map]at hi
 obtain⟨y,h1,h2⟩:=Option.map_eq_some_iff.1 hi
 exact⟨y,h1,h2.symm⟩
section
variable {C:Ctx} {st st':St} {ok:Nat→Prop} {h:Nat→Hd} {a:Act} {w w':World} {o:Oper} {x:V} {p:Prop} {σ:List (Nat×Nat)}
theorem RdV.down {v:Value} (hx:RdV w ok (fun i=>h (ren σ i)) x v):RdV w ok h (gJ σ x) v:=by
 generalize hh:(fun i=>h (ren σ i))=h1 at hx
 induction hx with
 |d x v hx=>exact .d x v hx
 |any v=>exact .any v
 |bp id off b hb=>subst hh;exact .bp _ off b hb
 |el id i off b hb=>subst hh;exact .el _ i off b hb
 |os id n hc=>subst hh;exact .os _ n hc
 |ot id lo n hc=>subst hh;exact .ot _ lo n hc
 |mp id b hb=>subst hh;exact .mp _ b hb
 |fS cs vs g hn hg _ ih=>
  refine .fS _ vs g (by rw[cT];simpa using hn) (by rw[cT];simpa using hg) fun i x hi=>?_
  obtain⟨y,h1,rfl⟩:=tL hi
  exact ih i y h1
 |gG cs vs g hn hg _ ih=>
  refine .gG _ vs g (by rw[cT];simpa using hn) (by rw[cT];simpa using hg) fun i x hi=>?_
  obtain⟨y,h1,rfl⟩:=tL hi
  exact ih i y h1
 |eR fn cs vs g hn hg _ ih=>
  refine .eR fn _ vs g (by rw[cT];simpa using hn) (by rw[cT];simpa using hg) fun i x hi=>?_
  obtain⟨y,h1,rfl⟩:=tL hi
  exact ih i y h1
 |when g x v _ hf ih=>exact .when g _ v ih hf
theorem RdV.up {y:V} {v:Value} (hx:RdV w ok h y v): ∀x,y=gJ σ x→RdV w ok (fun i=>h (ren σ i)) x v:=by
 induction hx with
 |d z v hz=>intro x e;cases x<;>simp only[gJ,reduceCtorEq]at e;cases e;exact .d _ _ hz
 |any v=>intro x e;cases x<;>simp only[gJ,reduceCtorEq]at e;exact .any v
 |bp id off b hb=>intro x e;cases x<;>simp only[gJ,reduceCtorEq]at e;cases e;exact .bp _ _ b hb
 |el id i off b hb=>
  intro x e;cases x<;>simp only[gJ,reduceCtorEq]at e
  cases e
  exact RdV.el (h:=fun i=>h (ren σ i)) _ _ _ b hb
 |os id n hc=>
  intro x e;cases x<;>simp only[gJ,reduceCtorEq]at e
  cases e
  exact RdV.os (h:=fun i=>h (ren σ i)) _ _ hc
 |ot id lo n hc=>
  intro x e;cases x<;>simp only[gJ,reduceCtorEq]at e
  cases e
  exact RdV.ot (h:=fun i=>h (ren σ i)) _ _ _ hc
 |mp id b hb=>intro x e;cases x<;>simp only[gJ,reduceCtorEq]at e;cases e;exact .mp _ b hb
 |fS cs vs g hn hg _ ih=>
  intro x e;cases x<;>simp only[gJ,reduceCtorEq]at e
  rename_i cs'
  cases e
  refine .fS _ vs g qaX qaY fun i x hi=>ih i _ qaJ x rfl
 |gG cs vs g hn hg _ ih=>
  intro x e;cases x<;>simp only[gJ,reduceCtorEq]at e
  rename_i cs'
  cases e
  refine .gG _ vs g qaX qaY fun i x hi=>ih i _ qaJ x rfl
 |eR fn cs vs g hn hg _ ih=>
  intro x e;cases x<;>simp only[gJ,reduceCtorEq]at e
  rename_i fn' cs'
  cases e
  refine .eR _ _ vs g qaX qaY fun i x hi=>ih i _ qaJ x rfl
 |when g z v _ hf ih=>
  intro x e;cases x<;>simp only[gJ,reduceCtorEq]at e
  cases e
  exact .when _ _ v (fun hg=>ih hg _ rfl) hf
theorem RdO.down {id:Nat} {o:O} (hx:RdO w ok (fun i=>h (ren σ i)) id o):RdO w ok h (ren σ id) (vO σ o):=by
 cases o with
 |own=>exact hx
 |raw=>exact hx
 |cB=>exact hx
 |cD x v=>exact⟨hx.1,hx.2.down⟩
 |box t cells=>
  obtain⟨b,cs,h1,h2,h3,h4⟩:=hx
  refine⟨b,cs,h1,h2,by rw[cT];simpa using h3,fun k x hk=>?_⟩
  obtain⟨y,h5,rfl⟩:=tL hk
  obtain⟨v,h6,h7⟩:=h4 k y h5
  exact⟨v,h6,h7.down⟩
theorem RdO.up {id:Nat} {o:O} (hx:RdO w ok h (ren σ id) (vO σ o)):RdO w ok (fun i=>h (ren σ i)) id o:=by
 cases o with
 |own=>exact hx
 |raw=>exact hx
 |cB=>exact hx
 |cD x v=>exact⟨hx.1,hx.2.up x rfl⟩
 |box t cells=>
  obtain⟨b,cs,h1,h2,h3,h4⟩:=hx
  refine⟨b,cs,h1,h2,by rw[cT]at h3;simpa using h3,fun k x hk=>?_⟩
  obtain⟨v,h6,h7⟩:=h4 k (gJ σ x) (by rw[cT,List.getElem?_map,hk];rfl)
  exact⟨v,h6,h7.up x rfl⟩
theorem RdO.agree {h':Nat→Hd} {id:Nat} {o:O} (hx:RdO w ok h id o) (hid:h' id=h id) (hh: ∀j,o.bU j=true→h' j=h j):RdO w ok h' id o:=by
 cases o with
 |own=>unfold RdO at hx⊢;rw[hid];exact hx
 |raw=>unfold RdO at hx⊢;rw[hid];exact hx
 |cB=>unfold RdO at hx⊢;rw[hid];exact hx
 |cD x v=>exact⟨by rw[hid];exact hx.1,hx.2.agree fun j hj=>hh j hj⟩
 |box t cells=>
  obtain⟨b,cs,h1,h2,h3,h4⟩:=hx
  refine⟨b,cs,by rw[hid];exact h1,h2,h3,fun k x hk=>?_⟩
  obtain⟨v,h6,h7⟩:=h4 k x hk
  refine⟨v,h6,h7.agree fun j hj=>hh j ?_⟩
  simp only[O.bU]
  cases hc:gH j cells with
  |true=>rfl
  |false=>rw[iW hc x (List.mem_of_getElem? hk)]at hj;cases hj
structure O2 (w:World) (ok:Nat→Prop) (h:Nat→Hd) (aD:List (Nat×O)):Prop where
 obj: ∀id o,look id aD=some o→RdO w ok h id o
 blk: ∀id o b,look id aD=some o→(h id).blk=some b→b<w.heap.size∧ ¬ok b
 apart: ∀id id' o o' b,look id aD=some o→look id' aD=some o'→id≠id'→(h id).blk=some b→(h id').blk≠some b
def nC (h:Nat→Hd) (aD:List (Nat×O)) (id b:Nat):Prop:= ∃o,look id aD=some o∧(h id).blk=some b
structure Left (aD objs':List (Nat×O)) (res:V) (ok:Nat→Prop) (h:Nat→Hd) (w:World) (ok':Nat→Prop) (h':Nat→Hd) (w':World) (v:Value):Prop where
 os:w'.os=w.os
 tape:w'.tape=w.tape
 output:w'.output=w.output
 size:w.heap.size≤w'.heap.size
 block: ∀k,k<w.heap.size→ ¬(∃id,nC h aD id k)→w'.heap[k]?=w.heap[k]?
 sub: ∀k,ok k→ok' k
 okb: ∀k,ok' k→k<w'.heap.size∧(ok k∨w.heap.size≤k)
 BB:O2 w' ok' h' objs'
 fresh: ∀id o b,look id objs'=some o→(h' id).blk=some b→w.heap.size≤b∨nC h aD id b
 pin: ∀id,100000≤id→h' id=h id
 res:RdV w' ok' h' res v
def R5 (w:World) (ok:Nat→Prop) (h:Nat→Hd) (args:List V) (vs:Array Value):Prop:=
 vs.size=args.length∧ ∀(i:Nat) (x:V),args[i]?=some x→ ∃v,vs[i]?=some v∧RdV w ok h x v
def bJ (P:Program) (f:FuncId) (args:List V) (aD:List (Nat×O)) (res:V) (objs':List (Nat×O)):Prop:=
 iJ P f=true∧ ∀(ok:Nat→Prop) (h:Nat→Hd) (w:World) (vs:Array Value),(∀k,ok k→k<w.heap.size)→Std P w→(∀id o b,look id aD=some o→(h id).blk=some b→P.globals.size≤b)→O2 w ok h aD→R5 w ok h args vs→
  Calls P f vs w fun e w'=> ∃v ok' h',e= .returned v∧Left aD objs' res ok h w ok' h' w' v
def H2 (P:Program) (f:FuncId) (args:List V) (aD:List (Nat×O)) {α:Type} (res:α→V) (objs':α→List (Nat×O)):Prop:=
 iJ P f=true∧ ∀(ok:Nat→Prop) (h:Nat→Hd) (w:World) (vs:Array Value),(∀k,ok k→k<w.heap.size)→Std P w→(∀id o b,look id aD=some o→(h id).blk=some b→P.globals.size≤b)→O2 w ok h aD→R5 w ok h args vs→
  Calls P f vs w fun e w'=> ∃x v ok' h',e= .returned v∧Left aD (objs' x) (res x) ok h w ok' h' w' v
theorem bJ.toE {P:Program} {f:FuncId} {args:List V} {aD objs':List (Nat×O)} {res:V} (hf:bJ P f args aD res objs'):H2 P f args aD (fun _:Unit=>res) (fun _=>objs'):=
 ⟨hf.1,fun ok h w vs h1 h2 h3 h4 h5=>(hf.2 ok h w vs h1 h2 h3 h4 h5).mono fun e w' hh=>⟨(),hh⟩⟩
def yY (P:Program) (st:St):ResultVar→Option V
 | .tmp t=>look t st.aO
 | .cell t ty=>match look t st.aO with
   |some (.bp id off)=>match look id st.aD with
    |some (.box _ cells)=>w6 P ty (cells.drop off)
    |_=>none
   |_=>none
def j7 (P:Program) (st:St):List ResultVar→Option (List V)
 |[]=>some []
 |r::rs=>match yY P st r,j7 P st rs with
  |some d,some ds=>some (d::ds)
  |_,_=>none
def B9 (cs:List V):V:=match vF cs with|some ds=> .d (.tup ds)|none=> .gG cs
def Aa:List V→V
 |[x]=>x
 |xs=>B9 xs
theorem xG {cs:List V} {vs:Array Value} {g:Nat→Value} (hn:vs.size=cs.length) (hg: ∀i,i<cs.length→vs[i]?=some (g i))
 (hx: ∀i x,cs[i]?=some x→RdV w ok h x (g i)):RdV w ok h (B9 cs) (.tuple vs):=by
 unfold B9
 split
 ·rename_i ds hd
  have e:=fU hd
  subst e
  refine .d _ _ (.tup ds vs g QK QJ fun i d hi=>?_)
  have:=hx i (.d d) (by simp[hi])
  cases this with|d _ _ h=>exact h
 ·exact .gG cs vs g hn hg hx
theorem BC (r:Rep C st ok h a w) {rv:ResultVar} (he:yY C.P st rv=some x): ∃v,(jC a.tmps rv).run C.P w= .ok v w∧RdV w ok h x v:=by
 unfold yY at he
 split at he
 ·rename_i t
  obtain⟨_,v,h1,h2⟩:=r.slot t x he
  exact⟨v,by simp[jC,Array.getD_eq_getD_getElem?,h1],h2⟩
 ·rename_i t ty
  split at he
  ·rename_i id off hx
   split at he
   ·rename_i ty' cells hl
    obtain⟨_,v,h1,h2⟩:=r.slot t _ hx
    cases h2 with
    |bp _ _ bk hb=>
     obtain⟨b',cs,h3,h4,h5,h6⟩:=r.mem.obj id _ hl
     obtain rfl:b'=bk:=by rw[h3]at hb;exact Option.some.inj hb
     obtain⟨v,hr,hrun⟩:=jL (P:=C.P) (w:=w) (ok:=ok) (h:=h) (b:=b') (off:=off) (cells:=cells.drop off) (fun k x hk=>by
      rw[List.getElem?_drop]at hk
      obtain⟨v,h7,h8⟩:=h6 _ _ hk
      exact⟨v,by simpa[World.cell?,h4]using h7,h8⟩) he
     refine⟨v,?_,hr⟩
     have:=hrun w (fun _=>rfl)
     simpa[jC,Array.getD_eq_getD_getElem?,h1,asAddr,Instr.loadAt,Instr.sureAddr]using this
   ·cases he
  ·cases he
theorem rQ (r:Rep C st ok h a w): ∀{rs:List ResultVar} {ds:List V},j7 C.P st rs=some ds→
 ∃vs:List Value,(rs.mapM (jC a.tmps)).run C.P w= .ok vs w∧vs.length=ds.length∧ ∀(i:Nat) (d:V),ds[i]?=some d→ ∃v,vs[i]?=some v∧RdV w ok h d v
 |[],ds,he=>by cases he;exact⟨[],qE,rfl,fun i d hi=>by simp at hi⟩
 |rv::rs,ds,he=>by
  simp only[j7]at he
  split at he
  ·rename_i d ds' hd hds
   cases he
   obtain⟨v,h1,h2⟩:=BC r hd
   obtain⟨vs,h3,h4,h5⟩:=rQ r hds
   refine⟨v::vs,by simp[List.mapM_cons,h1,h3],by simp[h4],fun i d' hi=>?_⟩
   cases i with
   |zero=>cases hi;exact⟨v,rfl,h2⟩
   |succ i=>simpa using h5 i d' qU
  ·cases he
theorem EV {vs:List Value} {ds:List V} (hl:vs.length=ds.length) (hr: ∀(i:Nat) (d:V),ds[i]?=some d→ ∃v,vs[i]?=some v∧RdV w ok h d v):
 RdV w ok h (Aa ds) (if hs:vs.toArray.size=1 then vs.toArray[0]else .tuple vs.toArray):=by
 have tup:ds.length≠1→RdV w ok h (B9 ds) (.tuple vs.toArray):=fun _=>by
  refine xG (g:=fun i=>vs.getD i undef) (by simpa using hl) (fun i hi=>?_) (fun i d hi=>?_)
  ·have:i<vs.length:=by omega
   simp[this]
  ·obtain⟨v,h6,h7⟩:=hr i d hi
   have:vs.getD i undef=v:=by simp[List.getD,h6]
   rw[this]
   exact h7
 match ds,hl,hr,tup with
 |[d],hl,hr,_=>
  obtain⟨v,h6,h7⟩:=hr 0 d rfl
  match vs,hl,h6 with
  |[u],_,h6=>
   cases h6
   exact h7
 |[],hl,hr,tup=>
  have hne: ¬vs.toArray.size=1:=by simp at hl;simp[hl]
  rw[dif_neg hne]
  exact tup qE
 |d1::d2::ds,hl,hr,tup=>
  have hne: ¬vs.toArray.size=1:=by simp at hl;simp[hl]
  rw[dif_neg hne]
  exact tup qE
def nH (C:Ctx) (rs:List ResultVar) (res:V) (objs':List (Nat×O)):Exit→St→Prop
 | .ret,st| .normal,st=> ∃st1,Le C st1 st∧(∃xs,j7 C.P st1 rs=some xs∧Aa xs=res)∧ ∀id o,look id objs'=some o→look id st1.aD=some o
 |_,_=>False
def o5:Nat→List V→List (Nat×V)
 |_,[]=>[]
 |i,d::r=>(i,d)::o5 (i+1) r
theorem xH: ∀{l:List V} {k i:Nat} {x:V},look i (o5 k l)=some x→k≤i∧l[i-k]?=some x
 |[],_,_,_,hx=>by cases hx
 |d::r,k,i,x,hx=>by
  simp only[o5,look]at hx
  split at hx
  ·rename_i e
   subst e;cases hx
   exact⟨Nat.le_refl _,qE⟩
  ·obtain⟨h2,h3⟩:=xH hx
   refine⟨qD,?_⟩
   obtain⟨j,rfl⟩: ∃j,i=k+1+j:=⟨i-(k+1),qD⟩
   rw[show k+1+j-k=j+1 by omega]
   rw[show k+1+j-(k+1)=j by omega]at h3
   simpa using h3
theorem My {c:Code} {Q Q':Exit→St→Prop} (h:ewp C c Q st) (hq: ∀e st,Q e st→Q' e st):ewp C c Q' st:=fun a w r=>wp_mono (h a w r) fun _ _ _ ⟨st',h1,h2⟩=>⟨st',hq _ st' h1,h2⟩
theorem KI {P:Program} {f:FuncId} {fn:Func} {c:Code} {args:List V} {α:Type} {res:α→V} {aD:List (Nat×O)} {objs':α→List (Nat×O)} (hf:P.funcs[f]?=some fn) (hb:fn.body=some c) (hcall:iJ P f=true) (hn:args.length≤fn.ntmps) (hn5:fn.ntmps≤50000)
 (hids:aD.all (fun p=>decide (50000≤p.1))=true) (rs:List ResultVar) (hrs:fn.results=rs.toArray)
 (hbody: ∀C:Ctx,C.P=P→C.nt=fn.ntmps→cS C→ewp C c (fun e st=> ∃y,nH C rs (res y) (objs' y) e st) ⟨o5 0 args,aD⟩):H2 P f args aD res objs':=by
 refine⟨hcall,fun ok h w vs hok hstd hlow hlies ⟨hsz,hvs⟩=>calls_of_wp hf hb (wp_mono (hbody ⟨P,w,ok,fn.ntmps,h,aD⟩ rfl rfl ⟨?_,hn5,?_,hstd,fun b ⟨id,o,h1,h2⟩=>hlow id o b h1 h2⟩ _ _ ⟨ok,h,?_⟩) ?_)⟩
 ·rintro b ⟨id,o,h1,h2⟩
  exact(hlies.blk id o b h1 h2).1
 ·intro id o hl
  have:=List.all_eq_true.1 hids _ (cX hl)
  simpa using this
 ·refine⟨⟨rfl,rfl,rfl,Nat.le_refl _,fun _ _ _=>rfl,fun k hk=>⟨hok k hk,fun⟨id,o,h1,h2⟩=>(hlies.blk id o k h1 h2).2 hk,.inl hk⟩,hlies.obj,fun id o b hl hb=>⟨(hlies.blk id o b hl hb).1,(hlies.blk id o b hl hb).2,.inr ⟨o,hl,hb⟩⟩,hlies.apart⟩,rfl,qH,fun _ _=>rfl,fun i x hx=>?_⟩
  obtain⟨_,hd⟩:=xH hx
  obtain⟨v,h1,h2⟩:=hvs i x (by simpa using hd)
  have hlt:i<vs.size:=(Array.getElem?_eq_some_iff.1 h1).1
  exact⟨qH,v,by rw[Array.getElem?_append_left hlt];exact h1,h2⟩
 ·rintro e a' w' ⟨st',⟨y,hq⟩,rr⟩
  have fin:(∃st1,Le ⟨P,w,ok,fn.ntmps,h,aD⟩ st1 st'∧(∃xs,j7 P st1 rs=some xs∧Aa xs=res y)∧ ∀id o,look id (objs' y)=some o→look id st1.aD=some o)→
   a'.defers=[]∧ ∃v,(results fn a'.tmps).run P w'= .ok v w'∧ ∃y u ok' h',Ending.returned v= .returned u∧Left aD (objs' y) (res y) ok h w ok' h' w' u:=by
   rintro⟨st1,hle,⟨xs,h1,h2⟩,hobj⟩
   obtain⟨ok',h',r⟩:=hle a' w' rr
   obtain⟨vs',h3,h4,h5⟩:=rQ (C:=⟨P,w,ok,fn.ntmps,h,aD⟩) r h1
   have hm:(fn.results.mapM (jC a'.tmps)).run P w'= .ok vs'.toArray w':=by
    rw[hrs]
    have h3':(rs.mapM (jC a'.tmps)).run P w'= .ok vs' w':=h3
    simp[List.mapM_toArray,h3']
   refine⟨r.defers,?_⟩
   rw[z8]
   simp only[Sem.run_bind,hm,Result.andThen_ok,Sem.run_pure]
   have mup: ∀k,ok' k→ok k∨ok' k:=fun k hk=> .inr hk
   have hnok: ∀id o b,look id (objs' y)=some o→(h' id).blk=some b→ ¬ok b:=fun id o b hl hb hk=>by
    rcases(r.mem.blk id o b (hobj id o hl) hb).2.2 with h6|⟨o1,h6,h7⟩
    ·have:=hok b hk
     simp only at h6
     omega
    ·exact(hlies.blk id o1 b h6 h7).2 hk
   refine⟨_,rfl,y,_,fun k=>ok k∨ok' k,h',rfl,r.mem.os,r.mem.tape,r.mem.output,r.mem.size,fun k hk hnl=>r.mem.block k hk fun⟨id,o,h6,h7⟩=>hnl ⟨id,o,h6,h7⟩,fun k hk=> .inl hk,fun k hk=>?_,⟨fun id o hl=>?_,fun id o b hl hb=>?_,fun id id' o o' b hl hl'=>?_⟩,fun id o b hl hb=>?_,fun id hid=>r.pin id hid,?_⟩
   ·rcases hk with hk|hk
    ·have:=hok k hk
     have:=r.mem.size
     exact⟨by simp only at this;omega,.inl hk⟩
    ·obtain⟨h6,_,h7⟩:=r.mem.okb k hk
     exact⟨h6,h7⟩
   ·exact(r.mem.obj id o (hobj id o hl)).mono (fun _ _=>rfl) mup fun _ _=>rfl
   ·obtain⟨h6,h7,_⟩:=r.mem.blk id o b (hobj id o hl) hb
    exact⟨h6,fun hk=>hk.elim (hnok id o b hl hb) h7⟩
   ·exact r.mem.apart id id' o o' b (hobj id o hl) (hobj id' o' hl')
   ·rcases(r.mem.blk id o b (hobj id o hl) hb).2.2 with h6|h6
    ·exact .inl h6
    ·exact .inr h6
   ·rw[←h2]
    exact(EV h4 h5).mono (fun _ _=>rfl) mup
  cases e with
  |normal=>exact fin hq
  |ret=>exact fin hq
  |_=>exact hq.elim
theorem Mz {P:Program} {f:FuncId} {fn:Func} {c:Code} {args:List V} {res:V} {aD objs':List (Nat×O)} (hf:P.funcs[f]?=some fn) (hb:fn.body=some c) (hcall:iJ P f=true) (hn:args.length≤fn.ntmps) (hn5:fn.ntmps≤50000)
 (hids:aD.all (fun p=>decide (50000≤p.1))=true) (rs:List ResultVar) (hrs:fn.results=rs.toArray)
 (hbody: ∀C:Ctx,C.P=P→C.nt=fn.ntmps→cS C→ewp C c (nH C rs res objs') ⟨o5 0 args,aD⟩):bJ P f args aD res objs':=by
 have hE:=KI (res:=fun _:Unit=>res) (objs':=fun _=>objs') hf hb hcall hn hn5 hids rs hrs fun C h1 h2 h3=>My (hbody C h1 h2 h3) fun e st hq=>⟨(),hq⟩
 exact⟨hE.1,fun ok h w vs h1 h2 h3 h4 h5=>(hE.2 ok h w vs h1 h2 h3 h4 h5).mono fun e w' ⟨_,hh⟩=>hh⟩
def l6 (q:Nat→Bool):V→Bool
 | .d _| .any=>true
 | .bp id _| .el id _ _| .os id _| .ot id _ _| .mp id=>q id
 | .fS cs| .gG cs| .eR _ cs=>KJ q cs
 | .when _ x=>l6 q x
where KJ (q:Nat→Bool):List V→Bool
 |[]=>true
 |x::r=>l6 q x&&KJ q r
def Sy (q:Nat→Bool):O→Bool
 | .box _ cells=>l6.KJ q cells
 | .cD x _=>l6 q x
 | .own .. | .raw _| .cB .. =>true
mutual
theorem p8 {q:Nat→Bool}: ∀{x:V},l6 q x=true→ ∀j,bU j x=true→q j=true
 | .d _,_,j,hj=>by simp[bU]at hj
 | .any,_,j,hj=>by simp[bU]at hj
 | .bp id _,hx,j,hj=>by simp only[bU,beq_iff_eq]at hj;subst hj;simpa[l6]using hx
 | .el id _ _,hx,j,hj=>by simp only[bU,beq_iff_eq]at hj;subst hj;simpa[l6]using hx
 | .os id _,hx,j,hj=>by simp only[bU,beq_iff_eq]at hj;subst hj;simpa[l6]using hx
 | .ot id _ _,hx,j,hj=>by simp only[bU,beq_iff_eq]at hj;subst hj;simpa[l6]using hx
 | .mp id,hx,j,hj=>by simp only[bU,beq_iff_eq]at hj;subst hj;simpa[l6]using hx
 | .fS cs,hx,j,hj=>mH qa2 j qaK
 | .gG cs,hx,j,hj=>mH qa2 j qaK
 | .eR _ cs,hx,j,hj=>mH qa2 j qaK
 | .when _ x,hx,j,hj=>p8 (x:=x) qa2 j qaK
theorem mH {q:Nat→Bool}: ∀{cs:List V},l6.KJ q cs=true→ ∀j,gH j cs=true→q j=true
 |[],_,j,hj=>by simp[gH]at hj
 |x::r,hx,j,hj=>by
  simp only[l6.KJ,Bool.and_eq_true]at hx
  simp only[gH,Bool.or_eq_true]at hj
  rcases hj with hj|hj
  ·exact p8 hx.1 j hj
  ·exact mH hx.2 j hj
end
theorem KK {q:Nat→Bool} {o:O} (hx:Sy q o=true) (j:Nat) (hj:o.bU j=true):q j=true:=by
 cases o with
 |own=>cases hj
 |raw=>cases hj
 |cB=>cases hj
 |cD x v=>exact p8 hx j hj
 |box t cells=>exact mH hx j hj
def Dd (σ:List (Nat×Nat)) (aD objs':List (Nat×O)) (res:V):Bool:=
 σ.all (fun p=>fJ σ p.2==some p.1)&&σ.all (fun p=>look p.1 σ==some p.2)&&σ.all (fun p=>decide (p.1<100000→p.2<100000))&&aD.all (fun p=>(look p.1 σ).isSome)&&
   objs'.all (fun p=>(look p.1 σ).isSome&&Sy (fun j=>(look j σ).isSome) p.2)&&l6 (fun j=>(look j σ).isSome) res
def kU:List (Nat×Nat)→List Nat
 |[]=>[]
 |(a,b)::r=>bif decide (a<100000)then b::kU r else kU r
def nI (ms:List Nat) (x:V):V:=bif ms.any (fun m=>bU m x)then .any else x
def sG (ms:List Nat):O→O
 | .box t cells=> .box t (cells.map (nI ms))
 | .cD x v=> .cD (nI ms x) v
 |o=>o
def mI (σ:List (Nat×Nat)) (ms:List Nat):List (Nat×O)→List (Nat×O)
 |[]=>[]
 |(j,o)::r=>bif (fJ σ j).isNone then(j,sG ms o)::mI σ ms r else mI σ ms r
def eE (σ:List (Nat×Nat)) (objs':List (Nat×O)):List (Nat×O):=objs'.map fun p=>(ren σ p.1,vO σ p.2)
def jD (σ:List (Nat×Nat)) (objs':List (Nat×O)) (st:St):St:=
 {aO:=st.aO.map fun p=>(p.1,nI (kU σ) p.2),aD:=eE σ objs'++mI σ (kU σ) st.aD}
theorem Ca {j a:Nat}: ∀{σ:List (Nat×Nat)},fJ σ j=some a→(a,j)∈σ
 |[],h=>by cases h
 |(c,d)::r,h=>by
  simp only[fJ]at h
  split at h
  ·rename_i e
   subst e;cases h;exact List.mem_cons_self
  ·exact List.mem_cons_of_mem _ (Ca h)
theorem Ab {m:Nat}: ∀{σ:List (Nat×Nat)} {a:Nat},(a,m)∈σ→a<100000→m∈kU σ
 |[],_,h,_=>by cases h
 |(c,d)::r,a,h,ha=>by
  simp only[kU]
  cases h with
  |head=>simp[ha]
  |tail _ h=>
   have:=Ab h ha
   cases decide (c<100000)
   ·exact this
   ·exact List.mem_cons_of_mem _ this
theorem o6 {ms:List Nat} {m:Nat} (hm:m∈ms) (x:V):bU m (nI ms x)=false:=by
 unfold nI
 cases hb:ms.any fun m=>bU m x with
 |true=>simp[bU]
 |false=>
  cases hs:bU m x with
  |false=>simpa using hs
  |true=>
   have:(ms.any fun m=>bU m x)=true:=List.any_eq_true.2 ⟨m,hm,hs⟩
   rw[hb]at this;cases this
theorem RdV.EW {ms:List Nat} {v:Value} (hx:RdV w ok h x v):RdV w ok h (nI ms x) v:=by
 unfold nI
 cases ms.any fun m=>bU m x with
 |true=>exact .any v
 |false=>exact hx
theorem KL {cs:List V} {j:Nat} (hj:gH j cs=true): ∃(k:Nat) (x:V),cs[k]?=some x∧bU j x=true:=by
 induction cs with
 |nil=>simp[gH]at hj
 |cons y r ih=>
  simp only[gH,Bool.or_eq_true]at hj
  rcases hj with hj|hj
  ·exact⟨0,y,rfl,hj⟩
  ·obtain⟨k,x,h1,h2⟩:=ih hj
   exact⟨k+1,x,QR,h2⟩
theorem EX {ms:List Nat} {m:Nat} (hm:m∈ms) (o:O):(sG ms o).bU m=false:=by
 cases o with
 |own=>rfl
 |raw=>rfl
 |cB=>rfl
 |cD x v=>exact o6 hm x
 |box t cells=>
  simp only[sG,O.bU]
  cases hc:gH m (cells.map (nI ms))with
  |false=>rfl
  |true=>
   obtain⟨k,x,h1,h2⟩:=KL hc
   rw[List.getElem?_map]at h1
   obtain⟨y,h3,h4⟩:=Option.map_eq_some_iff.1 h1
   subst h4
   rw[o6 hm]at h2;cases h2
theorem RdO.EW {ms:List Nat} {j:Nat} {o:O} (hx:RdO w ok h j o):RdO w ok h j (sG ms o):=by
 cases o with
 |own=>exact hx
 |raw=>exact hx
 |cB=>exact hx
 |cD x v=>exact⟨hx.1,hx.2.EW⟩
 |box t cells=>
  obtain⟨b,cs,h1,h2,h3,h4⟩:=hx
  refine⟨b,cs,h1,h2,by simp[h3],fun k x hk=>?_⟩
  rw[List.getElem?_map]at hk
  obtain⟨y,hy,hyx⟩:=Option.map_eq_some_iff.1 hk
  subst hyx
  obtain⟨v,h5,h6⟩:=h4 k y hy
  exact⟨v,h5,h6.EW⟩
theorem vP {ms:List Nat} {j:Nat} {o:O}: ∀{l:List (Nat×O)},look j (mI σ ms l)=some o→fJ σ j=none∧ ∃o',look j l=some o'∧o=sG ms o'
 |[],h=>by cases h
 |(k,o1)::r,h=>by
  simp only[mI]at h
  cases hn:(fJ σ k).isNone with
  |true=>
   rw[hn]at h
   simp only[cond_true,look]at h
   split at h
   ·rename_i e
    subst e;cases h
    exact⟨QK,o1,qaD,rfl⟩
   ·rename_i e
    obtain⟨h1,o',h2,h3⟩:=vP h
    exact⟨h1,o',by simp[look,e,h2],h3⟩
  |false=>
   rw[hn]at h
   obtain⟨h1,o',h2,h3⟩:=vP h
   refine⟨h1,o',?_,h3⟩
   have:k≠j:=fun e=>by subst e;simp[h1]at hn
   simp[look,this,h2]
theorem xI {α:Type} {i:Nat}: ∀{l m:List (Nat×α)},look i (l++m)=(look i l).or (look i m)
 |[],m=>by simp[look]
 |(j,x)::r,m=>by
  simp only[List.cons_append,look]
  split
  ·simp
  ·exact xI
theorem MA {objs':List (Nat×O)} {j:Nat} {o:O} (hk:objs'.all (fun p=>(look p.1 σ).isSome)=true):look j (eE σ objs')=some o→ ∃a o',look a σ=some j∧look a objs'=some o'∧o=vO σ o'∨ ∃a,look a σ=some j∧False:=by
 induction objs' with
 |nil=>intro h;cases h
 |cons p r ih=>
  obtain⟨a,o1⟩:=p
  intro h
  simp only[eE,List.map_cons,look]at h
  simp only[List.all_cons,Bool.and_eq_true]at hk
  split at h
  ·rename_i e
   cases h
   obtain⟨b,hb⟩:=Option.isSome_iff_exists.1 hk.1
   have:ren σ a=b:=by simp[ren,hb]
   exact⟨a,o1,.inl ⟨by rw[hb,←this,e],qaD,rfl⟩⟩
  ·obtain⟨c,o',h1|⟨_,_,hf⟩⟩:=ih hk.2 h
   ·obtain⟨h1,h2,h3⟩:=h1
    refine⟨c,o',.inl ⟨h1,?_,h3⟩⟩
    rename_i e
    have:a≠c:=fun e'=>by subst e';exact e (by simp[ren,h1])
    simp[look,this,h2]
   ·exact hf.elim
theorem EY {α:Type} [Inhabited α] {ops:Array Oper} {rest:List Oper} {K:St→Prop} {x:Operand} {f:FuncId} {args:Array Operand} {ts:Array TypeId} {y:V} {xs caps cargs:List V} {cobjs:List (Nat×O)} {cobjs':α→List (Nat×O)} {res:α→V} (σ:List (Nat×Nat)) (hc:cS C)
 (hw:gE ops o st=some true) (ho:o.op= .call {callee:= .value x,args:=args,argTypes:=ts}) (hy:ev true st x=some y) (hx:cF (some y)=some (f,caps)) (hl:evL true st args.toList=some xs)
 (hf:H2 C.P f cargs cobjs res cobjs') (hxs:rM σ cargs=xs++caps) (hobj:dB st.aD (cobjs.map fun p=>ren σ p.1)=some (eE σ cobjs)) (hσ: ∀y,Dd σ cobjs (cobjs' y) (res y)=true)
 (hd:cV C.nt o.dst=true) (hk: ∀y,cC C ops rest ((jD σ (cobjs' y) st).put o.dst (gJ σ (res y))) K):cC C ops (o::rest) st K:=by
 intro a w ⟨ok,h,r⟩ Q hQ
 simp only[Dd,Bool.and_eq_true]at hσ
 obtain⟨⟨⟨⟨⟨s1,s2⟩,s3⟩,s4⟩,_⟩,_⟩:=hσ default
 have u1: ∀{a b:Nat},look a σ=some b→fJ σ b=some a:=fun{a b} hab=>by
  have:=List.all_eq_true.1 s1 _ (cX hab)
  simpa using this
 have u2: ∀{a b:Nat},fJ σ b=some a→look a σ=some b:=fun{a b} hab=>by
  have:=List.all_eq_true.1 s2 _ (Ca hab)
  simpa using this
 have u3: ∀{a b:Nat},look a σ=some b→a<100000→b<100000:=fun{a b} hab ha=>by
  have:=List.all_eq_true.1 s3 _ (cX hab)
  simp only[decide_eq_true_eq]at this
  exact this ha
 have ur: ∀{a b:Nat},look a σ=some b→ren σ a=b:=fun{a b} hab=>by simp[ren,hab]
 have inj: ∀{a c b:Nat},look a σ=some b→look c σ=some b→a=c:=fun{a c b} h1 h2=>by
  have e1:=u1 h1
  rw[u1 h2]at e1
  exact(Option.some.inj e1).symm
 refine wpList_step fun K' hK=>?_
 rw[bV r hw,if_pos rfl]
 unfold Oper.wp
 obtain⟨cs,h1,h2,h3⟩:=fM rfl r hx (aT rfl r hy) hl
 rw[Array.toArray_toList]at h2 h3
 rw[oY hf.1 ho h1,Oper.upon_enter]
 have hlent: ∀id o,look id cobjs=some o→look (ren σ id) st.aD=some (vO σ o)∧ ∃b,look id σ=some b:=fun id o hid=>by
  have hm:=cX hid
  obtain⟨b,hb⟩:=Option.isSome_iff_exists.1 (List.all_eq_true.1 s4 _ hm)
  refine⟨jB hobj (ren σ id) (vO σ o) ?_,b,hb⟩
  have key: ∀(l:List (Nat×O)),(∀p∈l,(look p.1 σ).isSome=true)→look id l=some o→look (ren σ id) (eE σ l)=some (vO σ o):=by
   intro l
   induction l with
   |nil=>intro _ h;cases h
   |cons p r ih=>
    obtain⟨c,o1⟩:=p
    intro hall h
    simp only[look]at h
    simp only[eE,List.map_cons,look]
    split at h
    ·rename_i e
     subst e;cases h
     rw[if_pos rfl]
    ·rename_i e
     rw[if_neg ?_]
     ·exact ih (fun p hp=>hall p (List.mem_cons_of_mem _ hp)) h
     ·intro e'
      obtain⟨d,hd⟩:=Option.isSome_iff_exists.1 (hall _ List.mem_cons_self)
      rw[ur hd,ur hb]at e'
      subst e'
      exact e (inj hd hb)
  exact key cobjs (fun p hp=>List.all_eq_true.1 s4 p hp) hid
 have BB:O2 w ok (fun i=>h (ren σ i)) cobjs:=by
  refine⟨fun id o hl=>(r.mem.obj _ _ (hlent id o hl).1).up,fun id o b hl hb=>?_,fun id id' o o' b hl hl' hne hb=>?_⟩
  ·obtain⟨h4,h5,_⟩:=r.mem.blk _ _ b (hlent id o hl).1 hb
   exact⟨h4,h5⟩
  ·obtain⟨h4,c,hc4⟩:=hlent id o hl
   obtain⟨h5,d,hd5⟩:=hlent id' o' hl'
   refine r.mem.apart _ _ _ _ b h4 h5 (fun e=>hne ?_) hb
   rw[ur hc4,ur hd5]at e
   subst e
   exact inj hc4 hd5
 have hlow: ∀id o b,look id cobjs=some o→(h (ren σ id)).blk=some b→C.P.globals.size≤b:=fun id o b hl hb=>by
  rcases(r.mem.blk _ _ b (hlent id o hl).1 hb).2.2 with h4|h4
  ·exact Nat.le_trans hc.std.1 h4
  ·exact hc.low b ⟨_,h4⟩
 refine(hf.2 ok (fun i=>h (ren σ i)) w _ (fun k hk=>(r.mem.okb k hk).1) (r.mem.std hc) hlow BB ⟨?_,fun i x hi=>?_⟩).mono fun e w' ⟨y0,v,ok',h',he,L⟩=>?_
 ·rw[h2,←hxs,cT];simp
 ·obtain⟨u,h4,h5⟩:=h3 i (gJ σ x) (by rw[←hxs,cT,List.getElem?_map,hi];rfl)
  exact⟨u,h4,h5.up x rfl⟩
 ·subst he
  obtain⟨⟨_,s5⟩,s6⟩:=hσ y0
  have hk:=hk y0
  generalize cobjs' y0=cobjs' at L s5 hk
  generalize res y0=res at L s6 hk
  let h'':Nat→Hd:=fun j=>match fJ σ j with|some a=>h' a|none=>h j
  have e1: ∀{a b:Nat},look a σ=some b→h'' b=h' a:=fun{a b} hab=>by simp only[h''];rw[u1 hab]
  have e2: ∀{j:Nat},fJ σ j=none→h'' j=h j:=fun{j} hj=>by simp only[h''];rw[hj]
  have e3: ∀{j:Nat},j∉kU σ→h'' j=h j:=fun{j} hj=>by
   cases hu:fJ σ j with
   |none=>exact e2 hu
   |some a=>
    have hab:=u2 hu
    rw[e1 hab]
    by_cases ha:a<100000
    ·exact absurd (Ab (cX hab) ha) hj
    ·rw[L.pin a qD,ur hab]
  have named: ∀{x:V} {v:Value},l6 (fun j=>(look j σ).isSome) x=true→RdV w' ok' h' x v→RdV w' ok' h'' (gJ σ x) v:=fun{x v} hi hr=>by
   refine RdV.down (hr.agree fun j hj=>?_)
   obtain⟨b,hb⟩:=Option.isSome_iff_exists.1 (p8 hi j hj)
   rw[ur hb,e1 hb]
  have hokb: ∀k,ok k→w'.heap[k]?=w.heap[k]?:=fun k hk=>L.block k (r.mem.okb k hk).1 fun⟨id,o,h4,h5⟩=>(BB.blk id o k h4 h5).2 hk
  have hlook: ∀j o,look j (jD σ cobjs' st).aD=some o→(∃a o',look a σ=some j∧look a cobjs'=some o'∧o=vO σ o')∨(fJ σ j=none∧ ∃o',look j st.aD=some o'∧o=sG (kU σ) o'):=fun j o hj=>by
   simp only[jD,xI]at hj
   cases hn:look j (eE σ cobjs')with
   |none=>rw[hn]at hj;exact .inr (vP hj)
   |some o2=>
    rw[hn]at hj
    cases hj
    obtain⟨a,o',h4|⟨_,_,hf⟩⟩:=MA (List.all_eq_true.2 fun p hp=>by
     have:=List.all_eq_true.1 s5 p hp
     simp only[Bool.and_eq_true]at this
     exact this.1) hn
    ·exact .inl ⟨a,o',h4⟩
    ·exact hf.elim
  have hother: ∀j o,fJ σ j=none→look j st.aD=some o→ ∀b,(h j).blk=some b→w'.heap[b]?=w.heap[b]?∧b<w.heap.size:=fun j o hj hl b hb=>by
   obtain⟨h4,_,_⟩:=r.mem.blk j o b hl hb
   refine⟨L.block b h4 fun⟨id,o2,h5,h6⟩=>?_,h4⟩
   obtain⟨h7,c,hc7⟩:=hlent id o2 h5
   have hne:j≠ren σ id:=fun e=>by
    rw[e,ur hc7,u1 hc7]at hj;cases hj
   exact r.mem.apart j _ o _ b hl h7 hne hb h6
  have hmem:Mem C ok' h'' (jD σ cobjs' st).aD w':=by
   have hms:=r.mem.size
   have hLs:=L.size
   refine⟨L.os.trans r.mem.os,L.tape.trans r.mem.tape,L.output.trans r.mem.output,qD,fun k hk hnl=>?_,fun k hk=>?_,fun j o hj=>?_,fun j o b hj hb=>?_,fun j j' o1 o2 b hj hj' hne hb=>?_⟩
   ·rw[L.block k qD fun⟨id,o,h4,h5⟩=>?_]
    ·exact r.mem.block k hk hnl
    ·obtain⟨h6,_⟩:=hlent id o h4
     rcases(r.mem.blk _ _ k h6 h5).2.2 with h7|h7
     ·omega
     ·exact hnl ⟨_,h7⟩
   ·obtain⟨h4,h5⟩:=L.okb k hk
    rcases h5 with h5|h5
    ·exact⟨h4,(r.mem.okb k h5).2⟩
    ·exact⟨h4,fun hl=>by have:=hc.lt k hl;omega,.inr qD⟩
   ·rcases hlook j o hj with⟨c,o',h4,h5,rfl⟩|⟨h4,o',h5,rfl⟩
    ·have hr:=L.BB.obj c o' h5
     have hid:=List.all_eq_true.1 s5 _ (cX h5)
     simp only[Bool.and_eq_true]at hid
     have:=RdO.down (σ:=σ) (h:=h'') (hr.agree (h':=fun i=>h'' (ren σ i)) (by rw[ur h4,e1 h4]) fun i hi=>by
      obtain⟨b,hb⟩:=Option.isSome_iff_exists.1 (KK hid.2 i hi)
      rw[ur hb,e1 hb])
     rw[ur h4]at this
     exact this
    ·refine RdO.agree (h:=h) (((r.mem.obj j o' h5).mono hokb L.sub fun b hb=>(hother j o' h4 h5 b hb).1).EW) (e2 h4) fun i hi=>e3 fun hm=>?_
     rw[EX hm]at hi;cases hi
   ·rcases hlook j o hj with⟨c,o',h4,h5,rfl⟩|⟨h4,o',h5,rfl⟩
    ·rw[e1 h4]at hb
     obtain⟨h6,h7⟩:=L.BB.blk c o' b h5 hb
     refine⟨h6,h7,?_⟩
     rcases L.fresh c o' b h5 hb with h8|⟨o2,h8,h9⟩
     ·exact .inl qD
     ·obtain⟨h10,_⟩:=hlent c o2 h8
      have h9':(h j).blk=some b:=by rw[←ur h4];exact h9
      rw[ur h4]at h10
      exact(r.mem.blk j _ b h10 h9').2.2
    ·rw[e2 h4]at hb
     obtain⟨h6,h7,h8⟩:=r.mem.blk j o' b h5 hb
     refine⟨qD,fun hk=>?_,h8⟩
     rcases(L.okb b hk).2 with h9|h9
     ·exact h7 h9
     ·omega
   ·have cross: ∀c j o1 o' b,look c σ=some j→look c cobjs'=some o'→(h' c).blk=some b→ ∀j',fJ σ j'=none→look j' st.aD=some o1→(h j').blk≠some b:=by
     intro c j o1 o' b h4 h5 hb j' hj' hl' hb'
     have hlt:=(hother j' o1 hj' hl' b hb').2
     rcases L.fresh c o' b h5 hb with h8|⟨o2,h8,h9⟩
     ·omega
     ·obtain⟨h10,_⟩:=hlent c o2 h8
      exact r.mem.apart j' _ o1 _ b hl' h10 (fun e=>by rw[e,ur h4,u1 h4]at hj';cases hj') hb' h9
    rcases hlook j o1 hj with⟨c,o',h4,h5,rfl⟩|⟨h4,o',h5,rfl⟩
    ·rw[e1 h4]at hb
     rcases hlook j' o2 hj' with⟨c',o'',h6,h7,rfl⟩|⟨h6,o'',h7,rfl⟩
     ·rw[e1 h6]
      exact L.BB.apart c c' o' o'' b h5 h7 (fun e=>hne (by subst e;rw[h4]at h6;exact Option.some.inj h6)) hb
     ·rw[e2 h6]
      exact cross c j o'' o' b h4 h5 hb j' h6 h7
    ·rw[e2 h4]at hb
     rcases hlook j' o2 hj' with⟨c',o'',h6,h7,rfl⟩|⟨h6,o'',h7,rfl⟩
     ·rw[e1 h6]
      intro hb'
      exact cross c' j' o' o'' b h6 h7 hb' j h4 h5 hb
     ·rw[e2 h6]
      exact r.mem.apart j j' o' o'' b h5 h7 hne hb
  have hrep:Rep C (jD σ cobjs' st) ok' h'' a w':=by
   refine⟨hmem,r.defers,r.nt,fun j hj=>?_,fun i x hx=>?_⟩
   ·rw[e3,r.pin j hj]
    intro hm
    have: ∀{τ:List (Nat×Nat)},j∈kU τ→ ∃a,(a,j)∈τ∧a<100000:=fun{τ}=>by
     induction τ with
     |nil=>intro h;cases h
     |cons p r ih=>
      obtain⟨c,d⟩:=p
      intro h
      simp only[kU]at h
      by_cases hc:c<100000
      ·simp only[hc,decide_true,cond_true,List.mem_cons]at h
       rcases h with rfl|h
       ·exact⟨c,List.mem_cons_self,hc⟩
       ·obtain⟨a,h4,h5⟩:=ih h
        exact⟨a,List.mem_cons_of_mem _ h4,h5⟩
      ·simp only[hc,decide_false,cond_false]at h
       obtain⟨a,h4,h5⟩:=ih h
       exact⟨a,List.mem_cons_of_mem _ h4,h5⟩
    obtain⟨c,h4,h5⟩:=this hm
    have:=List.all_eq_true.1 s3 _ h4
    simp only[decide_eq_true_eq]at this
    have:=this h5
    omega
   ·simp only[jD]at hx
    rw[jM]at hx
    obtain⟨x',h4,h5⟩:=Option.map_eq_some_iff.1 hx
    subst h5
    obtain⟨h6,u,h7,h8⟩:=r.slot i x' h4
    refine⟨h6,u,h7,(h8.EW.mono hokb L.sub).agree fun j hj=>e3 fun hm=>?_⟩
    rw[o6 hm]at hj;cases hj
  exact hK _ _ (hk _ _ ⟨ok',h'',hrep.put (bG hd) (named s6 L.res)⟩ Q hQ)
theorem H3 {ops:Array Oper} {rest:List Oper} {K:St→Prop} {x:Operand} {f:FuncId} {args:Array Operand} {ts:Array TypeId} {y:V} {xs caps cargs:List V} {cobjs cobjs':List (Nat×O)} {res:V} (σ:List (Nat×Nat)) (hc:cS C)
 (hw:gE ops o st=some true) (ho:o.op= .call {callee:= .value x,args:=args,argTypes:=ts}) (hy:ev true st x=some y) (hx:cF (some y)=some (f,caps)) (hl:evL true st args.toList=some xs)
 (hf:bJ C.P f cargs cobjs res cobjs') (hxs:rM σ cargs=xs++caps) (hobj:dB st.aD (cobjs.map fun p=>ren σ p.1)=some (eE σ cobjs)) (hσ:Dd σ cobjs cobjs' res=true)
 (hd:cV C.nt o.dst=true) (hk:cC C ops rest ((jD σ cobjs' st).put o.dst (gJ σ res)) K):cC C ops (o::rest) st K:=by
 refine EY (α:=Unit) (cobjs':=fun _=>cobjs') (res:=fun _=>res) σ hc hw ho hy hx hl hf.toE hxs hobj (fun _=>hσ) hd fun _=>hk
end
end Go.Lw
namespace Go.Lw
open Go.RowKit
def Ac (fn:Fn) (cs:List V):V:=match vF cs with|some ds=> .d (.clo fn ds)|none=> .eR fn cs
def Ad (f:V→V):V→V
 | .d x=> .d x
 | .bp id off=>f (.bp id off)
 | .el id i off=>f (.el id i off)
 | .os id n=>f (.os id n)
 | .ot id lo n=>f (.ot id lo n)
 | .mp id=>f (.mp id)
 | .fS cs=>w4 (EZ f cs)
 | .gG cs=>B9 (EZ f cs)
 | .eR fn cs=>Ac fn (EZ f cs)
 | .when g x=> .when g (Ad f x)
 | .any=> .any
where EZ (f:V→V):List V→List V
 |[]=>[]
 |x::r=>Ad f x::EZ f r
def okV (q:V→Prop):V→Prop
 | .d _| .any=>True
 | .bp id off=>q (.bp id off)
 | .el id i off=>q (.el id i off)
 | .os id n=>q (.os id n)
 | .ot id lo n=>q (.ot id lo n)
 | .mp id=>q (.mp id)
 | .fS cs| .gG cs| .eR _ cs=>okL q cs
 | .when _ x=>okV q x
where okL (q:V→Prop):List V→Prop
 |[]=>True
 |x::r=>okV q x∧okL q r
def O3 (f:V→V):O→O
 | .box t cells=> .box t (Ad.EZ f cells)
 | .own e sz gr es=> .own e sz gr es
 | .raw ob=> .raw ob
 | .cB kd L=> .cB kd L
 | .cD x v=> .cD (Ad f x) v
def okO (q:V→Prop):O→Prop
 | .box _ cells=>okV.okL q cells
 | .cD x _=>okV q x
 | .own .. | .raw _| .cB .. =>True
def yZ (q:V→Prop):List (Nat×V)→Prop
 |[]=>True
 |(_,x)::r=>okV q x∧yZ q r
def De (q:V→Prop):List (Nat×O)→Prop
 |[]=>True
 |(_,o)::r=>okO q o∧De q r
def y5 (f:V→V) (l:List (Nat×O)):List (Nat×O):=l.map fun p=>(p.1,O3 f p.2)
def Ae (f:V→V) (l:List (Nat×V)):List (Nat×V):=l.map fun p=>(p.1,Ad f p.2)
theorem gS (f:V→V): ∀cs:List V,Ad.EZ f cs=cs.map (Ad f)
 |[]=>rfl
 |x::r=>by simp[Ad.EZ,gS f r]
theorem y6 {q:V→Prop} {cs:List V} (hk:okV.okL q cs): ∀x∈cs,okV q x:=by
 induction cs with
 |nil=>intro x hx;cases hx
 |cons y r ih=>
  intro x hx
  cases hx with
  |head=>exact hk.1
  |tail _ hx=>exact ih hk.2 x hx
theorem tM {q:V→Prop} {i:Nat} {x:V}: ∀{l:List (Nat×V)},yZ q l→look i l=some x→okV q x
 |[],_,h=>by cases h
 |(j,y)::r,hk,h=>by
  simp only[look]at h
  split at h
  ·cases h;exact hk.1
  ·exact tM hk.2 h
theorem xJ {q:V→Prop} {i:Nat} {x:O}: ∀{l:List (Nat×O)},De q l→look i l=some x→okO q x
 |[],_,h=>by cases h
 |(j,y)::r,hk,h=>by
  simp only[look]at h
  split at h
  ·cases h;exact hk.1
  ·exact xJ hk.2 h
section
variable {C:Ctx} {st st':St} {ok ok':Nat→Prop} {h:Nat→Hd} {a:Act} {w w':World} {o:Oper} {x:V} {p:Prop} {f:V→V} {q:V→Prop}
theorem E0 {fn:Fn} {cs:List V} {vs:Array Value} {g:Nat→Value} (hn:vs.size=cs.length) (hg: ∀i,i<cs.length→vs[i]?=some (g i))
 (hx: ∀i x,cs[i]?=some x→RdV w ok h x (g i)):RdV w ok h (Ac fn cs) (.func fn #[] vs):=by
 unfold Ac
 split
 ·rename_i ds hd
  have e:=fU hd
  subst e
  refine .d _ _ (.clo fn ds vs g QK QJ fun i d hi=>?_)
  have:=hx i (.d d) (by simp[hi])
  cases this with|d _ _ h=>exact h
 ·exact .eR fn cs vs g hn hg hx
theorem RdV.sub {v:Value} (hf: ∀x v,q x→RdV w ok h x v→RdV w ok' h (f x) v) (ho: ∀b,ok b→ok' b) (hx:RdV w ok h x v) (hk:okV q x):RdV w ok' h (Ad f x) v:=by
 induction hx with
 |d x v hx=>exact .d x v (hx.mono (fun _ _=>rfl) ho)
 |any v=>exact .any v
 |bp id off b hb=>exact hf _ _ hk (.bp id off b hb)
 |el id i off b hb=>exact hf _ _ hk (.el id i off b hb)
 |os id n hc=>exact hf _ _ hk (.os id n hc)
 |ot id lo n hc=>exact hf _ _ hk (.ot id lo n hc)
 |mp id b hb=>exact hf _ _ hk (.mp id b hb)
 |fS cs vs g hn hg _ ih=>
  refine lF (g:=g) (by rw[gS];simpa using hn) (by rw[gS];simpa using hg) fun i x hi=>?_
  rw[gS,List.getElem?_map]at hi
  obtain⟨y,h1,rfl⟩:=Option.map_eq_some_iff.1 hi
  exact ih i y h1 (y6 hk y (List.mem_of_getElem? h1))
 |gG cs vs g hn hg _ ih=>
  refine xG (g:=g) (by rw[gS];simpa using hn) (by rw[gS];simpa using hg) fun i x hi=>?_
  rw[gS,List.getElem?_map]at hi
  obtain⟨y,h1,rfl⟩:=Option.map_eq_some_iff.1 hi
  exact ih i y h1 (y6 hk y (List.mem_of_getElem? h1))
 |eR fn cs vs g hn hg _ ih=>
  refine E0 (g:=g) (by rw[gS];simpa using hn) (by rw[gS];simpa using hg) fun i x hi=>?_
  rw[gS,List.getElem?_map]at hi
  obtain⟨y,h1,rfl⟩:=Option.map_eq_some_iff.1 hi
  exact ih i y h1 (y6 hk y (List.mem_of_getElem? h1))
 |when g x v _ hf' ih=>exact .when g _ v (fun e=>ih e hk) hf'
theorem RdO.sub {id:Nat} {o:O} (hf: ∀x v,q x→RdV w ok h x v→RdV w ok' h (f x) v) (ho: ∀b,ok b→ok' b) (hx:RdO w ok h id o) (hk:okO q o):RdO w ok' h id (O3 f o):=by
 cases o with
 |own=>exact hx.mono (fun _ _=>rfl) ho fun _ _=>rfl
 |raw=>exact hx
 |cD x v=>exact⟨hx.1,hx.2.sub hf ho hk⟩
 |cB kd L=>
  obtain⟨b,es,h1,h2,h3,h4⟩:=hx
  exact⟨b,es,h1,h2,h3,fun i k d hi=>let⟨hk,v,hv,hr⟩:=h4 i k d hi;⟨hk,v,hv,hr.mono (fun _ _=>rfl) ho⟩⟩
 |box t cells=>
  obtain⟨b,cs,h1,h2,h3,h4⟩:=hx
  refine⟨b,cs,h1,h2,by rw[gS];simpa using h3,fun k x hk'=>?_⟩
  rw[gS,List.getElem?_map]at hk'
  obtain⟨y,h5,rfl⟩:=Option.map_eq_some_iff.1 hk'
  obtain⟨v,h6,h7⟩:=h4 k y h5
  exact⟨v,h6,h7.sub hf ho (y6 hk y (List.mem_of_getElem? h5))⟩
def MB (id:Nat):O→Option ((V→V)×(V→Prop))
 | .own _ _ gr es=>some (fun
     | .os j n=>bif j==id then .d (.sl n fun i=>es.getD i gr.2)else .os j n
     | .el j i off=>bif j==id then .any else .el j i off
     |x=>x,fun
     | .os j n=>bif j==id then n≤es.length else True
     |_=>True)
 | .box _ cells=>(vF cells).map fun ds=>(fun
     | .bp j off=>bif j==id then .d (.ip ds off)else .bp j off
     |x=>x,fun _=>True)
 | .cB kd L=>some (fun
     | .mp j=>bif j==id then .d (.mp kd (L.map (·.1)) fun i=>(L[i]?.map (·.2)).getD (.lit undef))else .mp j
     |x=>x,fun _=>True)
 | .raw _| .cD .. =>none
def xK (id:Nat) (st:St):Option (St×Prop):=
 match look id st.aD with
 |some o=>match MB id o with
  |some (f,q)=>if id<50000 then some ({aO:=Ae f st.aO,aD:=y5 f (nB id st.aD)},yZ q st.aO∧De q (nB id st.aD))else none
  |none=>none
 |none=>none
theorem Jy (hc:cS C) {id:Nat} (he:xK id st=some (st',p)) (hp:p):Le C st' st:=by
 unfold xK at he
 split at he
 ·rename_i o hl
  split at he
  ·rename_i f q hlf
   split at he
   ·rename_i hid
    obtain⟨rfl,rfl⟩:=Prod.mk.inj (Option.some.inj he)
    obtain⟨hps,hpo⟩:=hp
    rintro a w ⟨ok,h,r⟩
    let ok2:Nat→Prop:=fun b=>ok b∨(h id).blk=some b
    have hf: ∀x v,q x→RdV w ok h x v→RdV w ok2 h (f x) v:=by
     intro x v hq hx
     have hx2:RdV w ok2 h x v:=hx.mono (fun _ _=>rfl) fun _ hb=> .inl hb
     cases o with
     |raw ob=>cases hlf
     |cB kd L=>
      obtain⟨rfl,rfl⟩:=Prod.mk.inj (Option.some.inj hlf)
      cases x with
      |mp j=>
       simp only
       cases hj:(j==id)with
       |false=>exact hx2
       |true=>
        simp only[cond_true]
        have hj':j=id:=by simpa using hj
        subst hj'
        cases hx with
        |mp _ b hb=>
         obtain⟨b',es,h1,h2,h3,h4⟩:=r.mem.obj j _ hl
         obtain rfl:b'=b:=by rw[h1]at hb;exact Option.some.inj hb
         refine .d _ _ (.mp kd _ _ b' L.length es (fun i=>(es[i]?.map (·.val)).getD undef) (.inr h1) h2 (by simpa using h3) (fun i k hk=>?_) fun i hi=>?_)
         ·rw[List.getElem?_map]at hk
          obtain⟨q,h5,rfl⟩:=Option.map_eq_some_iff.1 hk
          obtain⟨h6,v,h7,_⟩:=h4 i q.1 q.2 h5
          exact⟨h6,by rw[h7];rfl⟩
         ·rw[List.length_map]at hi
          have h5:=List.getElem?_eq_getElem hi
          obtain⟨_,v,h7,h8⟩:=h4 i _ _ h5
          rw[h7,h5]
          exact h8.mono (fun _ _=>rfl) fun _ hb=> .inl hb
      |_=>exact hx2
     |cD _ _=>cases hlf
     |own e sz gr es=>
      obtain⟨rfl,rfl⟩:=Prod.mk.inj (Option.some.inj hlf)
      obtain⟨hsz,hcm,h5⟩:=r.mem.obj id _ hl
      cases x with
      |os j n=>
       simp only at hq⊢
       cases hj:(j==id)with
       |false=>exact hx2
       |true=>
        rw[hj]at hq
        simp only[cond_true]at hq⊢
        have hj':j=id:=by simpa using hj
        subst hj'
        cases hx with
        |os _ _ hcap=>
         refine .d _ _ ?_
         rcases h5 with⟨h6,h7,h8⟩|⟨b',cur,fz,h1,h2,h3,_,h4,h5,h6⟩
         ·subst h7
          obtain rfl:n=0:=by simpa using hq
          exact .sl 0 _ _ _ 0 0 0 (fun _ _=>undef) qD hcm (fun h=>by omega) (fun i hi=>by omega) (fun i k hi=>by omega) (fun i k d hi=>by omega)
         ·let g:Nat→Nat→Value:=fun i k=>cur.getD (i*sz+k) undef
          have hcur: ∀i k,i<n→k<sz→cur[i*sz+k]?=some (g i k):=fun i k hi hk=>by
           have:i*sz+k<cur.size:=by
            rw[h5]
            have:(i+1)*sz≤(h j).cap*sz:=Nat.mul_le_mul_right _ qD
            rw[Nat.add_mul]at this
            omega
           simp[g,Array.getElem?_eq_getElem this]
          have hes: ∀i,i<n→es[i]?=some (es.getD i gr.2):=fun i hi=>by simp[List.getD,List.getElem?_eq_getElem (show i<es.length by omega)]
          refine .sl n _ _ _ sz b' 0 g hcap hcm (fun _=>⟨by simp[Hd.addr,h1],.inr h1⟩) (fun i hi=>(h6 i _ (hes i hi)).1) (fun i k hi hk=>?_) (fun i k d hi hk=>?_)
          ·have:=hcur i k hi hk
           simpa[World.cell?,h2]using this
          ·obtain⟨v,h7,h8⟩:=(h6 i _ (hes i hi)).2 k d hk
           have hkl:k<sz:=by rw[←(h6 i _ (hes i hi)).1];exact(List.getElem?_eq_some_iff.1 hk).1
           rw[hcur i k hi hkl]at h7
           cases h7
           exact h8.mono (fun _ _=>rfl) fun _ hb=> .inl hb
      |el j i off=>
       simp only
       cases hj:(j==id)with
       |false=>exact hx2
       |true=>exact .any v
      |_=>exact hx2
     |box t cells=>
      obtain⟨ds,hds,he⟩:=Option.map_eq_some_iff.1 hlf
      obtain⟨rfl,rfl⟩:=Prod.mk.inj he
      have e:=fU hds
      subst e
      cases x with
      |bp j off=>
       simp only
       cases hj:(j==id)with
       |false=>exact hx2
       |true=>
        simp only[cond_true]
        have hj':j=id:=by simpa using hj
        subst hj'
        cases hx with
        |bp _ _ b hb=>
         obtain⟨b',cs,h1,h2,h3,h4⟩:=r.mem.obj j _ hl
         obtain rfl:b'=b:=by rw[h1]at hb;exact Option.some.inj hb
         have key:RdD w ok2 (.ip ds off) (.pointer (some ⟨b',0+off,none⟩)):=by
          refine .ip ds off b' 0 (fun k=>cs.getD k undef) (.inr h1) (fun k hk=>?_) (fun k d hk=>?_)
          ·have:k<cs.size:=by rw[h3];simpa using hk
           simp[World.cell?,h2,Array.getElem?_eq_getElem this]
          ·obtain⟨v,h5,h6⟩:=h4 k (.d d) (by simp[hk])
           have hv:cs.getD k undef=v:=by simp[Array.getD_eq_getD_getElem?,h5]
           rw[hv]
           cases h6 with|d _ _ h=>exact h.mono (fun _ _=>rfl) fun _ hb=> .inl hb
         rw[Nat.zero_add]at key
         exact .d _ _ key
      |_=>exact hx2
    have hlook: ∀j o',look j (y5 f (nB id st.aD))=some o'→j≠id∧ ∃o1,look j st.aD=some o1∧okO q o1∧o'=O3 f o1:=by
     intro j o' hj
     unfold y5 at hj
     rw[jM,wZ]at hj
     split at hj
     ·cases hj
     ·rename_i hne
      obtain⟨o1,h1,h2⟩:=Option.map_eq_some_iff.1 hj
      refine⟨fun e=>hne e.symm,o1,h1,xJ hpo (i:=j) ?_,h2.symm⟩
      rw[wZ,if_neg hne]
      exact h1
    have hm:=r.mem
    refine⟨ok2,h,⟨hm.os,hm.tape,hm.output,hm.size,hm.block,fun k hk=>?_,fun j o' hj=>?_,fun j o' b hj hb=>?_,fun j j' o1 o2 b hj hj' hne hb=>?_⟩,r.defers,r.nt,r.pin,fun i x hx=>?_⟩
    ·rcases hk with hk|hk
     ·exact hm.okb k hk
     ·obtain⟨h1,h2,h3⟩:=hm.blk id o k hl hk
      have hge:C.w0.heap.size≤k:=by
       rcases h3 with h3|⟨o0,h4,_⟩
       ·exact h3
       ·have:=hc.ids id o0 h4
        omega
      exact⟨h1,fun hlent=>by have:=hc.lt k hlent;omega,.inr hge⟩
    ·obtain⟨_,o1,h1,h2,rfl⟩:=hlook j o' hj
     exact(hm.obj j o1 h1).sub hf (fun _ hb=> .inl hb) h2
    ·obtain⟨hne,o1,h1,_,rfl⟩:=hlook j o' hj
     obtain⟨h4,h5,h6⟩:=hm.blk j o1 b h1 hb
     exact⟨h4,fun hk=>hk.elim h5 fun hk=>hm.apart j id o1 o b h1 hl hne hb hk,h6⟩
    ·obtain⟨_,o3,h1,_,rfl⟩:=hlook j o1 hj
     obtain⟨_,o4,h2,_,rfl⟩:=hlook j' o2 hj'
     exact hm.apart j j' o3 o4 b h1 h2 hne hb
    ·simp only[Ae]at hx
     rw[jM]at hx
     obtain⟨y,h1,rfl⟩:=Option.map_eq_some_iff.1 hx
     obtain⟨h2,v,h3,h4⟩:=r.slot i y h1
     exact⟨h2,v,h3,h4.sub hf (fun _ hb=> .inl hb) (tM hps h1)⟩
   ·cases he
  ·cases he
 ·cases he
theorem H4 {ops:Array Oper} {rest:List Oper} {K:St→Prop} {t ty:TypeId} {y:Operand} {n:Nat} {g:Nat→List D} {r0:TypeId×Nat} (hw:gE ops o st=some true) (ho:o.op= .binOp .eql t y (.const (.slice none 0 0)) ty) (ht:bM C.P t=some r0)
 (hy:ev true st y=some (.d (.sl n g))) (hd:cV C.nt o.dst=true) (hk: ∀b:Bool,(b=true→n=0)→cC C ops rest (st.put o.dst (.d (.lit (.bool b)))) K):cC C ops (o::rest) st K:=by
 intro a w ⟨ok,h,r⟩ Q hQ
 refine wpList_step fun K' hK=>?_
 rw[bV r hw,if_pos rfl]
 have e1:=aT rfl r hy
 generalize hv:a.eval y=v at e1
 cases e1 with
 |d _ _ hx=>cases hx with
  |sl _ _ A cap size b off g hc hm hA hl hg hd'=>
   unfold Oper.wp
   have hrun:(execOp a.eval o).run C.P w= .ok (.value (.bool A.isNone)) w:=by
    have he:=run_equal_slice_nil (P:=C.P) w t r0.1 A n cap (bF ht).1
    have hk2:a.eval (.const (.slice none 0 0))= .slice none 0 0:=rfl
    simp[execOp,ho,hv,hk2,eqGuard,binOp,he]
   rw[hrun]
   refine hK _ _ (hk A.isNone (fun hA'=>?_) _ _ ⟨ok,h,r.put (bG hd) (.d _ _ (.lit _))⟩ Q hQ)
   rcases Nat.eq_zero_or_pos n with h0|h0
   ·exact h0
   ·rw[(hA h0).1]at hA';cases hA'
end
end Go.Lw
