/- OUT OF ONE PLACE: a function ends with one result, the same in every world, of which only what is asked for is known. -/
import Derived.Test.YtdjfgcjlnfnfhaaGreatDoorLwTail
set_option linter.unusedSimpArgs false
set_option linter.unusedVariables false
namespace Go.Lw
open Go Go.RowKit
def dG {α:Type}:Sem α→Prop
 | .pure _=>True
 | .load _ _ k=> ∀v,dG (k v)
 | .shape _ k=> ∀v,dG (k v)
 | .frozen _ k=> ∀v,dG (k v)
 | .getObj _ k=> ∀v,dG (k v)
 | .choose _ k=> ∀v,dG (k v)
 | .program k=> ∀v,dG (k v)
 | .mark _ k=>dG k
 | .halt _=>True
 |_=>False
theorem gL {α:Type} {P:Program}: ∀{s:Sem α} {w w':World} {r:α},dG s→s.run P w= .ok r w'→w'.heap=w.heap
 | .pure a,w,w',r,_,h=>by simp only[Sem.run]at h;cases h;rfl
 | .load m a k,w,w',r,hc,h=>by
   simp only[Sem.run]at h
   split at h
   ·exact gL (hc _) h
   ·split at h
    ·exact gL (hc _) h
    ·cases h
 | .shape a k,w,w',r,hc,h=>by simp only[Sem.run]at h;exact gL (hc _) h
 | .frozen a k,w,w',r,hc,h=>by simp only[Sem.run]at h;exact gL (hc _) h
 | .getObj a k,w,w',r,hc,h=>by
   simp only[Sem.run]at h
   split at h
   ·cases h
   ·exact gL (hc _) h
   ·cases h
 | .choose q k,w,w',r,hc,h=>by
   simp only[Sem.run]at h
   split at h
   ·exact gL (hc _) h
   ·have:=gL (hc _) h
    exact this
 | .program k,w,w',r,hc,h=>by simp only[Sem.run]at h;exact gL (hc _) h
 | .mark m k,w,w',r,hc,h=>by simp only[Sem.run]at h;exact gL (s:=k) hc h
 | .halt x,w,w',r,_,h=>by simp only[Sem.run]at h;cases h
 | .store ..,_,_,_,hc,_=>hc.elim
 | .new ..,_,_,_,hc,_=>hc.elim
 | .freeze ..,_,_,_,hc,_=>hc.elim
 | .setObj ..,_,_,_,hc,_=>hc.elim
 | .sys ..,_,_,_,hc,_=>hc.elim
theorem bC {α β:Type} {f:α→Sem β} (hf: ∀a,dG (f a)): ∀{s:Sem α},dG s→dG (s >>= f)
 | .pure a,_=>hf a
 | .load m a k,hc=>fun v=>bC hf (hc v)
 | .shape a k,hc=>fun v=>bC hf (hc v)
 | .frozen a k,hc=>fun v=>bC hf (hc v)
 | .getObj a k,hc=>fun v=>bC hf (hc v)
 | .choose q k,hc=>fun v=>bC hf (hc v)
 | .program k,hc=>fun v=>bC hf (hc v)
 | .mark m k,hc=>bC (s:=k) hf hc
 | .halt x,_=>trivial
 | .store ..,hc=>hc.elim
 | .new ..,hc=>hc.elim
 | .freeze ..,hc=>hc.elim
 | .setObj ..,hc=>hc.elim
 | .sys ..,hc=>hc.elim
theorem j8:dG program:=fun _=>trivial
theorem BF (t:TypeId):dG (typeInfo t):=by
 unfold typeInfo
 refine bC (fun p=>?_) j8
 split<;>exact True.intro
theorem gT (t:TypeId):dG (underlying t):=by
 unfold underlying
 refine bC (fun p=>?_) j8
 split<;>exact True.intro
theorem pA (t:TypeId):dG (sizeOf t):=by
 unfold sizeOf
 refine bC (fun p=>?_) (BF t)
 exact True.intro
theorem Ic (t:TypeId):dG (isAgg t):=by
 unfold isAgg
 refine bC (fun p=>?_) (gT t)
 split<;>exact True.intro
theorem rR (a:Addr): ∀(n i:Nat) (acc:Array Value),dG (loadCellsFrom a i n acc)
 |0,i,acc=>True.intro
 |n+1,i,acc=>by
  unfold loadCellsFrom
  exact bC (fun v=>rR a n (i+1) _) (fun v=>True.intro)
theorem Di (t:TypeId) (a:Addr):dG (loadVar t a):=by
 unfold loadVar
 refine bC (fun b=>?_) (Ic t)
 split
 ·refine bC (fun n=>?_) (pA t)
  refine bC (fun c=>?_) (rR a n 0 _)
  exact True.intro
 ·exact fun v=>True.intro
theorem l7 (v:Value):dG (Instr.sureAddr v):=by unfold Instr.sureAddr;split<;>exact True.intro
theorem Fz (t:TypeId) (v:Value):dG (Instr.loadAt t v):=by
 unfold Instr.loadAt
 exact bC (fun a=>Di t a) (l7 v)
theorem Dj (v:Value):dG (asIntOf v):=by unfold asIntOf;split<;>exact True.intro
theorem FA {α:Type} (k:IntKind) (x y:Int) (c:BoundsCode):dG (boundsPanic k x y c:Sem α):=by
 unfold boundsPanic
 have h: ∀b:Bool,dG (runtimePanic (α:=α) (.bounds (IntKind.i64.wrap x) y b c)):=fun b p=>True.intro
 simp only
 split
 ·exact bC h (fun v=>True.intro)
 ·exact bC h True.intro
theorem Dk (t:TypeId) (x y:Value):dG (Instr.indexAt t x y):=by
 unfold Instr.indexAt
 refine bC (fun ki=>?_) (Dj y)
 obtain⟨k,i⟩:=ki
 refine bC (fun d=>?_) (gT t)
 simp only
 repeat' (first|exact True.intro|exact gT _|exact pA _|exact l7 _|exact FA _ _ _ _|refine bC (fun _=>?_) ?_|split|intro _)
theorem FB (a:Addr):dG (noView a):=by
 unfold noView
 repeat' (first|exact True.intro|exact j8|refine bC (fun _=>?_) ?_|split|intro _)
theorem FC (a:Addr):dG (byteOf a):=by
 unfold byteOf
 have hs:dG (shape a.block):=fun v=>True.intro
 repeat' (first|exact True.intro|exact j8|exact FB _|exact hs|refine bC (fun _=>?_) ?_|split|intro _|dsimp only)
theorem Dl (s:TypeId) (x:Value) (f:Nat):dG (Instr.fieldAt s x f):=by
 unfold Instr.fieldAt fieldPlace partAt
 repeat' (first|exact True.intro|exact gT _|exact pA _|exact l7 _|exact FC _|refine bC (fun _=>?_) ?_|split|intro _)
theorem KP (x y:Value):dG (Builtin.min2 x y):=by
 unfold Builtin.min2
 split
 ·exact trivial
 ·split
  ·exact fun v=>trivial
  ·exact trivial
  ·exact trivial
  ·exact trivial
 ·refine bC (fun v=>?_) True.intro
  refine bC (fun b=>?_) ?_
  ·exact True.intro
  ·unfold asBool;split<;>exact True.intro
 all_goals exact trivial
theorem KQ (x y:Value):dG (Builtin.max2 x y):=by
 unfold Builtin.max2
 split
 ·exact trivial
 ·split
  ·exact fun v=>trivial
  ·exact trivial
  ·exact trivial
  ·exact trivial
 ·refine bC (fun v=>?_) True.intro
  refine bC (fun b=>?_) ?_
  ·exact True.intro
  ·unfold asBool;split<;>exact True.intro
 all_goals exact trivial
theorem sI {f:Value→Value→Sem Value} (hf: ∀x y,dG (f x y)): ∀(l:List Value) (x:Value),dG (l.foldlM f x)
 |[],x=>trivial
 |y::l,x=>by
  rw[List.foldlM_cons]
  exact bC (fun z=>sI hf l z) (hf x y)
def FD (o:Oper):Bool:=match o.op with
 | .move _| .assign _| .load _ _| .fieldAddr _ _ _| .indexAddr _ _ _=>true
 | .call c=>match c.callee with| .builtin .min=>true| .builtin .max=>true|_=>false
 |_=>false
theorem O7 {o:Oper} (h:FD o=true) {P:Program} {ev:Operand→Value} {w w':World} {n:Next} (hr:(execOp ev o).run P w= .ok n w'):w'.heap=w.heap∧ ∃u,n= .value u:=by
 have val: ∀{s:Sem Value},dG s→(do pure (Next.value (←s)):Sem Next).run P w= .ok n w'→w'.heap=w.heap∧ ∃u,n= .value u:=fun{s} hs h2=>by
  rw[Sem.run_bind]at h2
  cases h3:s.run P w with
  |ok v w1=>
   rw[h3]at h2
   simp only[Result.andThen_ok,Sem.run_pure]at h2
   cases h2
   exact⟨gL hs h3,v,rfl⟩
  |halt x w1=>
   rw[h3]at h2
   cases h2
 unfold FD at h
 split at h
 ·rename_i x ho
  simp only[execOp,ho,Sem.run_pure]at hr
  cases hr
  exact⟨rfl,_,rfl⟩
 ·rename_i x ho
  simp only[execOp,ho,Sem.run_pure]at hr
  cases hr
  exact⟨rfl,_,rfl⟩
 ·rename_i t x ho
  simp only[execOp,ho]at hr
  exact val (Fz _ _) hr
 ·rename_i t x f ho
  simp only[execOp,ho]at hr
  exact val (Dl _ _ _) hr
 ·rename_i t x f ho
  simp only[execOp,ho]at hr
  exact val (Dk _ _ _) hr
 ·rename_i c ho
  split at h
  ·rename_i hcal
   simp only[execOp,ho,resolve,hcal,Sem.run_bind,Sem.run_pure,Result.andThen_ok,invoke,builtin]at hr
   refine val (s:=Builtin.min_ c.argTypes o.type (c.args.map ev)) ?_ (by rw[Sem.run_bind];exact hr)
   unfold Builtin.min_
   split
   ·exact trivial
   ·exact sI KP _ _
  ·rename_i hcal
   simp only[execOp,ho,resolve,hcal,Sem.run_bind,Sem.run_pure,Result.andThen_ok,invoke,builtin]at hr
   refine val (s:=Builtin.max_ c.argTypes o.type (c.args.map ev)) ?_ (by rw[Sem.run_bind];exact hr)
   unfold Builtin.max_
   split
   ·exact trivial
   ·exact sI KQ _ _
  ·cases h
 ·cases h
section
variable {P:Program} {ops:Array Oper} {Q:Exit→Act→World→Prop}
def YieldsAt (P:Program) (ops:Array Oper) (o:Oper) (v:Value) (a:Act) (H:Array Obj):Prop:=
 (Region.wanted o (yielded ops a.tmps)=true∧ ∀w:World,w.heap=H→(execOp a.eval o).run P w= .ok (.value v) w)∨
 (Region.wanted o (yielded ops a.tmps)=false∧v=undef)
theorem YieldsAt.of_same {o:Oper} {v:Value} {a a':Act} {H:Array Obj} (hy:YieldsAt P ops o v a H) (he:execOp a'.eval o=execOp a.eval o)
 (hw:Region.wanted o (yielded ops a'.tmps)=Region.wanted o (yielded ops a.tmps)):YieldsAt P ops o v a' H:=by
 unfold YieldsAt at*
 rw[he,hw]
 exact hy
theorem YieldsAt.wpOp {i:Nat} {o:Oper} {v:Value} {a:Act} (hi:ops[i]?=some o) {K:Act→World→Prop} {w:World} (hy:YieldsAt P ops o v a w.heap) (h:K (a.put o.dst v) w):wpOp P ops Q i K a w:=by
 unfold Go.wpOp
 simp only[hi]
 rcases hy with⟨hw,hv⟩|⟨hw,rfl⟩
 ·simp only[hw,if_true,Oper.wp,hv w rfl,Oper.upon];exact .inl h
 ·simp only[hw,Bool.false_eq_true,if_false];exact h
theorem KR {j:Nat} {oi oj:Oper} {v:Value} (hj:ops[j]?=some oj) (hap:oi.apart ops oj=true) (hcalm:FD oj=true)
 (hsi: ∀cs b,oi.op≠ .select cs b) (hsj: ∀cs b,oj.op≠ .select cs b)
 (hQ: ∀c a w,Q (.panic c) (a.put oi.dst v) w→Q (.panic c) a w) {K:Act→World→Prop} {a:Act} {w:World}
 (hy:YieldsAt P ops oi v a w.heap) (h:wpOp P ops Q j K (a.put oi.dst v) w):
 wpOp P ops Q j (fun a' w'=>YieldsAt P ops oi v a' w'.heap∧K (a'.put oi.dst v) w') a w:=by
 obtain⟨h1,h2,h3⟩:=Oper.apart_spec hap
 have keep: ∀(a:Act) (H:Array Obj),YieldsAt P ops oi v a H→ ∀u,YieldsAt P ops oi v (a.put oj.dst u) H:=fun a H hy u=>
  hy.of_same (execOp_put oi hsi a oj.dst u h3) (wanted_put oi a oj.dst u h3)
 unfold wpOp at*
 simp only[hj]at*
 rw[wanted_put oj a oi.dst v h1]at h
 split
 ·rename_i hw
  simp only[hw,if_true]at h
  rcases h with h|⟨hasks,hlets⟩
  case inr=>exact .inr ⟨by unfold Oper.asks at*;rw[execOp_put oj hsj a oi.dst v h1]at hasks;exact hasks,hlets⟩
  refine .inl ?_
  unfold Oper.wp at*
  rw[execOp_put oj hsj a oi.dst v h1]at h
  generalize hr:(execOp a.eval oj).run P w=r at*
  cases r with
  |ok n w'=>
   obtain⟨hh,u,rfl⟩:=O7 hcalm hr
   simp only[Oper.upon]at h⊢
   exact⟨hh▸keep a _ hy u,by rw[←Act.put_comm a v u h2];exact h⟩
  |halt x w'=>
   cases x<;>simp only[Oper.upon]at h⊢
   case panic u=>exact hQ _ _ _ h
 ·rename_i hw
  simp only[hw]at h
  exact⟨keep a _ hy _,by rw[←Act.put_comm a v undef h2];exact h⟩
def FE (ops:Array Oper) (L:List Nat) (i:Nat) (listed:Array Bool):Bool:=
 (L.contains i&&L.all fun k=>decide (k<ops.size))&&(List.range ops.size).all (fun j=>match ops[j]? with
   |some oj=>j==i||(if L.contains j then !listed.getD j false&&oj.after.any (fun e=>Region.binds .any e&&(e.on==i||L.contains e.on))
     else listed.getD j true||(FD oj&&(match ops[i]? with|some oi=>oi.apart ops oj|none=>false)))
   |none=>true)&& !listed.getD i false
theorem Ie {i:Nat} {oi:Oper} {v:Value} (L:List Nat) (hi:ops[i]?=some oi) (hsel: ∀(j:Nat) (o:Oper) cs b,ops[j]?=some o→o.op≠ .select cs b)
 (hQ: ∀c a w,Q (.panic c) (a.put oi.dst v) w→Q (.panic c) a w):
 ∀(fuel:Nat) (listed:Array Bool) (a:Act) (w:World),FE ops L i listed=true→i∈Region.ready .any ops listed→YieldsAt P ops oi v a w.heap→
  wpAny P .any ops Q fuel (listed.setIfInBounds i true) (a.put oi.dst v) w→wpAny P .any ops Q (fuel+1) listed a w:=by
 have key: ∀{listed:Array Bool} {j:Nat} {oj:Oper},FE ops L i listed=true→j∈Region.ready .any ops listed→ops[j]?=some oj→j≠i→L.contains j=false∧FD oj=true∧oi.apart ops oj=true:=by
  intro listed j oj hl hj hoj hne
  simp only[FE,Bool.and_eq_true,List.all_eq_true,List.mem_range]at hl
  obtain⟨⟨⟨_,hL⟩,hall⟩,hli⟩:=hl
  have hlt:=(Array.getElem?_eq_some_iff.1 hoj).1
  have h1:=hall j hlt
  obtain⟨hun,o,ho,hdeps⟩:=mem_ready.1 hj
  obtain rfl:o=oj:=Option.some.inj (ho.symm.trans hoj)
  simp only[hoj,hi,Bool.or_eq_true,beq_iff_eq,hne,false_or]at h1
  cases hLj:L.contains j with
  |false=>
   rw[hLj]at h1
   simp only[Bool.false_eq_true,if_false,hun,Bool.or_eq_true,false_or,Bool.and_eq_true]at h1
   exact⟨rfl,h1⟩
  |true=>
   exfalso
   rw[hLj]at h1
   simp only[if_true,Bool.and_eq_true,Bool.not_eq_true']at h1
   obtain⟨e,he,hb⟩:=Array.any_eq_true'.1 h1.2
   simp only[Bool.and_eq_true,Bool.or_eq_true,beq_iff_eq]at hb
   have hd:=hdeps e he hb.1
   rcases hb.2 with h2|h2
   ·rw[h2]at hd
    simp[hd]at hli
   ·by_cases h3:e.on=i
    ·rw[h3]at hd
     simp[hd]at hli
    ·rcases Nat.lt_or_ge e.on ops.size with h4|h4
     ·have h5:=hall e.on h4
      rw[Array.getElem?_eq_getElem h4]at h5
      simp only[Bool.or_eq_true,beq_iff_eq,h3,false_or,h2,if_true,Bool.and_eq_true,Bool.not_eq_true']at h5
      rw[hd]at h5
      cases h5.1
     ·have h6:=hL e.on (by simpa using h2)
      simp only[decide_eq_true_eq]at h6
      omega
 intro fuel
 induction fuel with
 |zero=>
  intro listed a w hl hr hy H
  refine⟨fun h=>QV,fun j hj=>?_⟩
  by_cases hji:j=i
  ·subst hji;exact hy.wpOp hi H
  ·have:=ready_mono hj hji
   rw[H.1]at this
   cases this
 |succ fuel ih=>
  intro listed a w hl hr hy H
  refine⟨fun h=>QV,fun j hj=>?_⟩
  by_cases hji:j=i
  ·subst hji;exact hy.wpOp hi H
  ·have h1:=H.2 j (ready_mono hj hji)
   obtain⟨hjun,oj,hoj,hall⟩:=mem_ready.1 hj
   obtain⟨k1,k2,k3⟩:=key hl hj hoj hji
   have h2:=KR hoj k3 k2 (fun cs b=>hsel i oi cs b hi) (fun cs b=>hsel j oj cs b hoj) hQ hy h1
   refine wpOp_mono (fun a' w' h3=>ih (listed.setIfInBounds j true) a' w' ?_ (ready_mono hr (Ne.symm hji)) h3.1 ?_) h2
   ·simp only[FE,Bool.and_eq_true,List.all_eq_true,List.mem_range]at hl⊢
    obtain⟨⟨l1,l2⟩,l3⟩:=hl
    refine⟨⟨l1,fun k hk=>?_⟩,by rw[getD_set_ne false hji];exact l3⟩
    have h4:=l2 k hk
    rw[Array.getElem?_eq_getElem hk]at h4⊢
    simp only[Bool.or_eq_true]at h4⊢
    rcases h4 with h4|h4
    ·exact .inl h4
    ·refine .inr ?_
     by_cases hjk:j=k
     ·subst hjk
      rw[k1]at h4⊢
      have hsz:j<listed.size:=by
       rcases Nat.lt_or_ge j listed.size with h'|h'
       ·exact h'
       ·simp[Array.getElem?_eq_none h']at hjun
      simp[hsz]
     ·rw[getD_set_ne true hjk,getD_set_ne false hjk]
      exact h4
   ·rw[Array.setIfInBounds_comm _ _ hji]
    exact h3.2
end
section
variable {C:Ctx} {P:Program} {nt:Nat} {st:St} {o:Oper} {x:V} {p:Prop} {K:St→Prop} {ops:Array Oper} {listed:Array Bool} {fuel i:Nat}
theorem aI (i:Nat) (L:List Nat) (hc:bB C P nt) (hi:ops[i]?=some o) (hB:(Region.noSelect ops&&FE ops L i listed&&(Region.ready .any ops listed).contains i)=true) (hg:o.guard=none)
 (he:aA (ro P (fun g=>ev g st) true st.aD o.op) (x,p)) (hp:p) (hd:cV nt o.dst=true) {st2:St} (h2:aA (some (st.put o.dst x)) st2) (hk:eD C ops fuel (listed.setIfInBounds i true) st2 K):eD C ops (fuel+1) listed st K:=by
 obtain⟨rfl,rfl,hok⟩:=hc
 cases h2
 intro a w ⟨ok,h,r⟩ Q hQ hn
 simp only[Bool.and_eq_true]at hB
 obtain⟨v,h4,h5⟩:=mE r (fun g hg x y=>aT hg r) he hp
 refine Ie (v:=v) L hi (Region.noSelect_spec hB.1.1) (fun c a w hq=>absurd hq (hn _ _ _)) fuel listed a w hB.1.2 (by simpa using hB.2) (.inl ⟨by simp[Region.wanted,hg],fun w' hw'=>h5 w' fun b _=>by rw[hw']⟩) (hk _ w ⟨ok,h,r.put (bG hd) h4⟩ Q hQ hn)
end
end Go.Lw
namespace Go.Proofs.YtdjfgcjlnfnfhaaGreatDoor
open Go.Lw Go.RowKit
set_option maxRecDepth 100000
set_option maxHeartbeats 2000000
theorem O8 {P:Program} {o:Oper} {a:Act} {w:World} {K:Act→World→Prop} {Q:Exit→Act→World→Prop} (hh:o.wp P a w K (fun e a w=>e= .normal∧K a w)):o.wp P a w K Q:=by
 unfold Oper.wp at*
 generalize (execOp a.eval o).run P w=r at*
 cases r with
 |ok n w'=>
  cases n<;>simp only[Oper.upon]at hh⊢ <;>
   first
    |exact hh
    |exact Calls.mono hh (fun e w'' he=>by
      cases e with
      |returned v=>exact he
      |panicked c=>exact absurd he.1 (fun h=>by cases h)
      |outgrown=>
       obtain⟨_,_,h,_⟩:=he
       cases h)
    |exact absurd hh.1 (fun h=>by cases h)
    |(obtain⟨_,_,h,_⟩:=hh;cases h)
 |halt x w'=>
  cases x<;>simp only[Oper.upon]at hh⊢ <;>
   first
    |exact hh
    |exact absurd hh.1 (fun h=>by cases h)
    |(obtain⟨_,_,h,_⟩:=hh;cases h)
theorem BG {C:Ctx} {ops:Array Oper} {i:Nat} {o:Oper} {st:St} {K:St→Prop} (hi:ops[i]?=some o) (h:cC C ops [o] st K):mJ C ops i st K:=by
 intro a w r Q K' hQ
 have h2:=h a w r (fun e a w=>e= .normal∧K' a w) (fun a' w' st' hk r'=>⟨rfl,hQ a' w' st' hk r'⟩)
 unfold wpOp
 rw[hi]
 unfold wpList at h2
 simp only
 split
 ·rename_i hw
  rw[if_pos hw]at h2
  rcases h2 with h3|⟨_,_,_,h4,_⟩
  ·left
   refine O8 ?_
   refine Oper.wp_mono (fun a w h=>?_) h3
   exact h.2
  ·cases h4
 ·rename_i hw
  rw[if_neg hw]at h2
  exact h2.2
section
variable {C:Ctx} {P:Program} {nt:Nat} {st:St} {K:St→Prop} {ops:Array Oper} {i:Nat}
theorem KS (σ:List (Nat×Nat)) {f:FuncId} {cargs:List V} {cobjs cobjs':List (Nat×O)} {rs:V} (hf:bJ P f cargs cobjs rs cobjs') (hc:bB C P nt) {x:Operand} {args:Array Operand} {ts:Array TypeId} {d:Option Tmp} {ty:TypeId} {pos:String} {af:Array Edge} {gd:Option (Nat×Bool)} {y:V} {xs caps xc:List V} {ps ps2:List (Nat×O)} {s2:St} {r2:V}
 (hi:ops[i]?=some {dst:=d,op:= .call {callee:= .value x,args:=args,argTypes:=ts},type:=ty,pos:=pos,after:=af,guard:=gd})
 (hw:aA (gE ops {dst:=d,op:= .call {callee:= .value x,args:=args,argTypes:=ts},type:=ty,pos:=pos,after:=af,guard:=gd} st) true)
 (hy:aA (ev true st x) y) (hx:aA (cF (some y)) (f,caps)) (hl:aA (evL true st args.toList) xs) (hxc:aA (some (xs++caps)) xc) (hxs:rM σ cargs=xc) (hps:aA (some (eE σ cobjs)) ps) (hpk:aA (dB st.aD (ps.map (·.1))) ps2) (hu:ps=ps2) (hσ:Dd σ cobjs cobjs' rs=true) (hd:cV nt d=true)
 (h2:aA (some (jD σ cobjs' st)) s2) (h3:aA (some (gJ σ rs)) r2) (hk:K (s2.put d r2)):mJ C ops i st K:=
 BG hi (aF σ hf hc hw hy hx hl hxc hxs hps hpk hu hσ hd h2 h3 (e9 hk))
end
theorem JB {C:Ctx} {ops:Array Oper} {fuel:Nat} {listed:Array Bool} {st st':St} {K:St→Prop} (hl:Le C st' st) (hx:eD C ops fuel listed st' K):eD C ops fuel listed st K:=fun a w r=>hx a w (hl a w r)
section
variable {C:Ctx} {P:Program} {nt:Nat} {st st':St} {x:V} {p:Prop} {K:St→Prop} {Q:Exit→St→Prop} {ops:Array Oper} {listed:Array Bool} {fuel i:Nat} {o:Oper}
theorem Xp (i:Nat) (hc:bB C P nt) (hi:ops[i]?=some o:=by rfl) (hB:(Region.noSelect ops&&Region.free .any ops listed i&&(Region.ready .any ops listed).contains i)=true:=by kernel_rfl) (hg:o.guard=none:=by rfl)
 (he:aA (ro P (fun g=>ev g (lO st)) true [] o.op) (x,p):=by simp;exact aA.mk) (hp:p:=by first|exact True.intro|omega|(simp;done)|(simp;omega)|(simp at*;omega)) (hx:fO x=true:=by simp) (hd:cV nt o.dst=true:=by simp) {st2:St} (h2:aA (some (st.put o.dst x)) st2:=by simp;exact aA.mk) (hk:eD C ops fuel (listed.setIfInBounds i true) st2 K):eD C ops (fuel+1) listed st K:=MC i hc hi hB hg he hp hx hd h2 hk
theorem Xm (i:Nat) {y:Operand} (hc:bB C P nt) (hi:ops[i]?=some o:=by rfl) (hB:(Region.noSelect ops&&Region.free .any ops listed i&&(Region.ready .any ops listed).contains i)=true:=by kernel_rfl) (hg:o.guard=none:=by rfl)
 (ho:o.op= .move y∨o.op= .assign y:=by first|exact .inl rfl|exact .inr rfl) (he:aA (ev true st y) x:=by simp;exact aA.mk) (hd:cV nt o.dst=true:=by simp) {st2:St} (h2:aA (some (st.put o.dst x)) st2:=by simp;exact aA.mk) (hk:eD C ops fuel (listed.setIfInBounds i true) st2 K):eD C ops (fuel+1) listed st K:=tP i hc hi hB hg ho he hd h2 hk
theorem Xg (i:Nat) (hc:bB C P nt) (hi:ops[i]?=some o:=by rfl) (hB:(Region.noSelect ops&&Region.free .any ops listed i&&(Region.ready .any ops listed).contains i)=true:=by kernel_rfl) {g:Bool} (hw:aA (gE ops o st) g:=by simp;exact aA.mk)
 (he:aA (ro P (fun g=>ev g (lO st)) g [] o.op) (x,p):=by simp;exact aA.mk) (hp:g=true→p:=by(intro _;first|exact True.intro|omega|(simp;done)|(simp;omega)|(simp at*;omega))) (hx:fO x=true:=by simp) (hd:cV nt o.dst=true:=by simp) {st2:St} (h2:aA (some (st.put o.dst (gI o g x))) st2:=by simp;exact aA.mk) (hk:eD C ops fuel (listed.setIfInBounds i true) st2 K):eD C ops (fuel+1) listed st K:=ME i hc hi hB hw he hp hx hd h2 hk
theorem Xw (hc:bB C P nt) (hi:ops[i]?=some o:=by rfl) (he:Lw.Ends (step1 P nt ops false o (.go st True)) st' p []:=by simp;exact Ends.go) (hp:p:=by first|exact True.intro|omega|(simp;done)|(simp;omega)|(simp at*;omega)) (hk:K st'):mJ C ops i st K:=vR hc hi he hp hk
theorem Xa (rs:List Nat) (hr:Region.ready .any ops listed=rs:=by kernel_rfl) (hne:rs.isEmpty=false:=by rfl) (hx:Fx C ops fuel listed st K rs):eD C ops (fuel+1) listed st K:=Ah rs hr hne hx
theorem Xz (hr:Region.ready .any ops listed=[]:=by kernel_rfl) (hk:K st):eD C ops fuel listed st K:=Cc hr hk
theorem Xq {s2:St} (hq:eD C ops fuel listed s2 K) (h1:dB st.aO (s2.aO.map (·.1))=some s2.aO:=by simp) (h2:dB st.aD (s2.aD.map (·.1))=some s2.aD:=by simp):eD C ops fuel listed st K:=
 JB (Le.keep _ _ h1 h2) hq
theorem Xc (hc:bB C P nt) {x:Operand} {f:FuncId} {args:Array Operand} {ts:Array TypeId} {y:V} {xs caps:List V} {ds:List D} {b g:Bool} {res:D} (hi:ops[i]?=some o:=by rfl) (ho:o.op= .call {callee:= .value x,args:=args,argTypes:=ts}:=by rfl)
 (hw:aA (gE ops o st) g:=by simp;exact aA.mk) (hy:aA (ev g st x) y:=by simp;exact aA.mk) (hx:aA (cF (some y)) (f,caps):=by simp;exact aA.mk) (hl:aA (evL g st args.toList) xs:=by simp;exact aA.mk) (ha:aA (iY st (xs++caps)) (ds,b):=by simp;exact aA.mk) (hf:aJ P f ds res) (hb:(!b||flat res)=true:=by simp) (hd:cV nt o.dst=true:=by simp)
 (hk:K (st.put o.dst (gI o g (.d res)))):mJ C ops i st K:=KO hc hi ho hw hy hx hl ha (fun _=>hf) hb hd hk
theorem Xs (σ:List (Nat×Nat)) {f:FuncId} {cargs:List V} {cobjs cobjs':List (Nat×O)} {rs:V} (hf:bJ P f cargs cobjs rs cobjs') (hc:bB C P nt) {x:Operand} {args:Array Operand} {ts:Array TypeId} {d:Option Tmp} {ty:TypeId} {pos:String} {af:Array Edge} {gd:Option (Nat×Bool)} {y:V} {xs caps xc:List V} {ps ps2:List (Nat×O)} {s2:St} {r2:V}
 (hi:ops[i]?=some {dst:=d,op:= .call {callee:= .value x,args:=args,argTypes:=ts},type:=ty,pos:=pos,after:=af,guard:=gd}:=by rfl)
 (hw:aA (gE ops {dst:=d,op:= .call {callee:= .value x,args:=args,argTypes:=ts},type:=ty,pos:=pos,after:=af,guard:=gd} st) true:=by simp;exact aA.mk)
 (hy:aA (ev true st x) y:=by simp;exact aA.mk) (hx:aA (cF (some y)) (f,caps):=by simp;exact aA.mk) (hl:aA (evL true st args.toList) xs:=by simp;exact aA.mk) (hxc:aA (some (xs++caps)) xc:=by simp;exact aA.mk) (hxs:rM σ cargs=xc:=by rfl) (hps:aA (some (eE σ cobjs)) ps:=by simp;exact aA.mk) (hpk:aA (dB st.aD (ps.map (·.1))) ps2:=by simp;exact aA.mk) (hu:ps=ps2:=by rfl) (hσ:Dd σ cobjs cobjs' rs=true:=by simp) (hd:cV nt d=true:=by simp)
 (h2:aA (some (jD σ cobjs' st)) s2:=by simp;exact aA.mk) (h3:aA (some (gJ σ rs)) r2:=by simp;exact aA.mk) (hk:K (s2.put d r2)):mJ C ops i st K:=KS σ hf hc hi hw hy hx hl hxc hxs hps hpk hu hσ hd h2 h3 hk
theorem Xk (is ids:List Nat) {sl:List (Nat×V)} {os:List (Nat×O)} (h1:aA (dB st.aO is) sl:=by simp;try exact aA.mk) (h2:aA (dB st.aD ids) os:=by simp;try exact aA.mk):Le C ⟨sl,os⟩ st:=aG is ids h1 h2
theorem Xb (is ids:List Nat) {s2:St} {sl:List (Nat×V)} {os:List (Nat×O)} (h1:aA (dB st.aO is) sl:=by simp;exact aA.mk) (h2:aA (dB st.aD ids) os:=by simp;exact aA.mk) (he:s2=⟨sl,os⟩:=by simp):Le C s2 st:=aC is ids h1 h2 he
theorem Xd (n:Nat) {st1:St} {id:Nat} {l:List Oper} (hc:bB C P nt) (hm:P.follows .mixedOrders=true:=by kernel_rfl) (hn:l.length=n:=by rfl) (hl:eD C l.toArray n (Array.replicate n false) st fun st'=>Le C st1 st') (hk:Q .normal st1):ewp C (.region id l.toArray true) Q st:=xL n hc hm hn hl hk
end
end Go.Proofs.YtdjfgcjlnfnfhaaGreatDoor
namespace Go.Lw
open Go Go.RowKit
section
variable {P:Program} {ops:Array Oper} {Q:Act→World→Prop} {a:Act} {w:World}
def stG (P:Program) (ops:Array Oper) (o:Oper) (a:Act) (w:World) (K:Value→World→Prop):Prop:=
 (Region.wanted o (yielded ops a.tmps)=true∧((∃v,(execOp a.eval o).run P w= .ok (.value v) w∧K v w)∨
   ∃f args,(execOp a.eval o).run P w= .ok (.enter f args) w∧Calls P f args w fun e w'=> ∃v,e= .returned v∧Below w.heap.size w w'∧K v w'))∨
 (Region.wanted o (yielded ops a.tmps)=false∧K undef w)
theorem FF {o:Oper} {K K':Value→World→Prop} (h: ∀v w',Below w.heap.size w w'→K v w'→K' v w') (hs:stG P ops o a w K):stG P ops o a w K':=by
 rcases hs with⟨hw,⟨v,h1,h2⟩|⟨f,args,h1,h2⟩⟩|⟨hw,h1⟩
 ·exact .inl ⟨hw,.inl ⟨v,h1,h _ _ (Below.refl _ _) h2⟩⟩
 ·exact .inl ⟨hw,.inr ⟨f,args,h1,h2.mono fun e w' ⟨v,he,hb,hk⟩=>⟨v,he,hb,h _ _ hb hk⟩⟩⟩
 ·exact .inr ⟨hw,h _ _ (Below.refl _ _) h1⟩
theorem FG {i:Nat} {o:Oper} {K:Act→World→Prop} {Q':Exit→Act→World→Prop} (hi:ops[i]?=some o) (hs:stG P ops o a w fun v w'=>K (a.put o.dst v) w'):wpOp P ops Q' i K a w:=by
 unfold wpOp
 rw[hi]
 simp only
 rcases hs with⟨hw,⟨v,h1,h2⟩|⟨f,args,h1,h2⟩⟩|⟨hw,h1⟩
 ·rw[if_pos hw]
  left
  unfold Oper.wp
  rw[h1]
  exact h2
 ·rw[if_pos hw]
  left
  unfold Oper.wp
  rw[h1,Oper.upon_enter]
  refine h2.mono fun e w' ⟨v,he,_,hk⟩=>?_
  subst he
  exact hk
 ·rw[if_neg (by simp[hw])]
  exact h1
def Ai (P:Program) (ops:Array Oper) (Q:Act→World→Prop):Nat→Array Bool→Act→World→Prop
 |0,listed,a,w=>Region.ready .any ops listed=[]∧Q a w
 |f+1,listed,a,w=>(Region.ready .any ops listed=[]→Q a w)∧ ∀i∈Region.ready .any ops listed,∃o,ops[i]?=some o∧stG P ops o a w fun v w'=>Ai P ops Q f (listed.setIfInBounds i true) (a.put o.dst v) w'
theorem xM {Q':Exit→Act→World→Prop} (hQ: ∀a w,Q a w→Q' .normal a w): ∀(f:Nat) (listed:Array Bool) (a:Act) (w:World),Ai P ops Q f listed a w→wpAny P .any ops Q' f listed a w
 |0,_,_,_,h=>⟨h.1,hQ _ _ h.2⟩
 |f+1,_,_,_,h=>⟨fun h0=>hQ _ _ (h.1 h0),fun i hi=>by
  obtain⟨o,ho,hs⟩:=h.2 i hi
  exact FG ho (FF (fun v w' _ hk=>xM hQ f _ _ _ hk) hs)⟩
theorem Ig {listed:Array Bool} (hr:Region.ready .any ops listed=[]) (hq:Q a w): ∀f,Ai P ops Q f listed a w
 |0=>⟨hr,hq⟩
 |f+1=>⟨fun _=>hq,fun i hi=>by rw[hr]at hi;cases hi⟩
def nK (P:Program) (ops:Array Oper) (o:Oper) (v:Value) (a:Act) (w:World):Prop:=
 (Region.wanted o (yielded ops a.tmps)=true∧ ∀w',Below w.heap.size w w'→(execOp a.eval o).run P w'= .ok (.value v) w')∨
 (Region.wanted o (yielded ops a.tmps)=false∧v=undef)
theorem nK.later {o:Oper} {v:Value} {w1:World} (h:nK P ops o v a w) (hb:Below w.heap.size w w1):nK P ops o v a w1:=by
 rcases h with⟨h1,h2⟩|h
 ·exact .inl ⟨h1,fun w' hw'=>h2 w' (hb.trans (hw'.mono hb.size))⟩
 ·exact .inr h
theorem nK.of_same {o:Oper} {v:Value} {a':Act} (h:nK P ops o v a w) (he:execOp a'.eval o=execOp a.eval o) (hw:Region.wanted o (yielded ops a'.tmps)=Region.wanted o (yielded ops a.tmps)):nK P ops o v a' w:=by
 unfold nK at*
 rw[he,hw]
 exact h
theorem tQ {o:Oper} {v:Value} {K:Value→World→Prop} (h:nK P ops o v a w) (hk:K v w):stG P ops o a w K:=by
 rcases h with⟨h1,h2⟩|⟨h1,rfl⟩
 ·exact .inl ⟨h1,.inl ⟨v,h2 w (Below.refl _ _),hk⟩⟩
 ·exact .inr ⟨h1,hk⟩
theorem xN {i:Nat} {oi:Oper} {v:Value} (hi:ops[i]?=some oi) (hsel: ∀(j:Nat) (o:Oper) cs b,ops[j]?=some o→o.op≠ .select cs b):
 ∀(f:Nat) (listed:Array Bool) (a:Act) (w:World),
  (∀j oj,ops[j]?=some oj→j≠i→listed.getD j true=false→(∀e∈oj.after,Region.binds .any e=true→e.on≠i)→oi.apart ops oj=true)→
  i∈Region.ready .any ops listed→nK P ops oi v a w→
  Ai P ops Q f (listed.setIfInBounds i true) (a.put oi.dst v) w→Ai P ops Q (f+1) listed a w:=by
 intro f
 induction f with
 |zero=>
  intro listed a w _ hr hy H
  refine⟨fun h=>QV,fun j hj=>?_⟩
  by_cases hji:j=i
  ·subst hji;exact⟨oi,hi,tQ hy H⟩
  ·have:=ready_mono hj hji
   rw[H.1]at this
   cases this
 |succ f ih=>
  intro listed a w hfree hr hy H
  refine⟨fun h=>QV,fun j hj=>?_⟩
  by_cases hji:j=i
  ·subst hji;exact⟨oi,hi,tQ hy H⟩
  ·obtain⟨oj',hoj',hs⟩:=H.2 j (ready_mono hj hji)
   obtain⟨hjun,oj,hoj,hall⟩:=mem_ready.1 hj
   obtain rfl:oj'=oj:=Option.some.inj (hoj'.symm.trans hoj)
   have hnot: ∀e∈oj'.after,Region.binds .any e=true→e.on≠i:=fun e he hb heq=>by
    have h1:=hall e he hb
    rw[heq,getD_both (mem_ready.1 hr).1]at h1
    cases h1
   obtain⟨h1,h2,h3⟩:=Oper.apart_spec (hfree j oj' hoj hji hjun hnot)
   have hfree': ∀k ok,ops[k]?=some ok→k≠i→(listed.setIfInBounds j true).getD k true=false→
    (∀e∈ok.after,Region.binds .any e=true→e.on≠i)→oi.apart ops ok=true:=fun k ok hk hki hun hno=>by
    refine hfree k ok hk hki ?_ hno
    by_cases hjk:j=k
    ·subst hjk;exact hjun
    ·rw[getD_set_ne true hjk]at hun;exact hun
   have hs2:stG P ops oj' a w fun u w'=>Ai P ops Q f ((listed.setIfInBounds i true).setIfInBounds j true) ((a.put oi.dst v).put oj'.dst u) w':=by
    unfold stG at hs⊢
    rw[execOp_put oj' (fun cs b=>hsel j oj' cs b hoj) a oi.dst v h1,wanted_put oj' a oi.dst v h1]at hs
    exact hs
   refine⟨oj',hoj,FF (fun u w' hb hk=>?_) hs2⟩
   refine ih (listed.setIfInBounds j true) (a.put oj'.dst u) w' hfree' (ready_mono hr (Ne.symm hji)) ((hy.later hb).of_same (execOp_put oi (fun cs b=>hsel i oi cs b hi) a oj'.dst u h3) (wanted_put oi a oj'.dst u h3)) ?_
   rw[Array.setIfInBounds_comm _ _ hji,←Act.put_comm a v u h2]
   exact hk
end
section
variable {C:Ctx} {P:Program} {nt:Nat} {st st':St} {o:Oper} {x:V} {p:Prop} {K:St→Prop} {Q:Exit→St→Prop} {ops:Array Oper} {listed:Array Bool} {fuel i:Nat}
def phW (C:Ctx) (ops:Array Oper) (fuel:Nat) (listed:Array Bool) (st:St) (K:St→Prop):Prop:=
 ∀a w,kZ C st a w→ ∀Q:Act→World→Prop,(∀a' w' st',K st'→kZ C st' a' w'→Q a' w')→Ai C.P ops Q fuel listed a w
theorem MF (hr:Region.ready .any ops listed=[]) (hk:K st):phW C ops fuel listed st K:=fun a w r Q hQ=>Ig hr (hQ a w st hk r) fuel
theorem SB {g:Bool} (hi:ops[i]?=some o) (hB:(Region.noSelect ops&&Region.free .any ops listed i&&(Region.ready .any ops listed).contains i)=true) (hw:gE ops o st=some g)
 (he:ro C.P (fun g=>ev g st) g st.aD o.op=some (x,p)) (hp:g=true→p) (hd:cV C.nt o.dst=true) (hk:phW C ops fuel (listed.setIfInBounds i true) (st.put o.dst (gI o g x)) K):phW C ops (fuel+1) listed st K:=by
 intro a w ⟨ok,h,r⟩ Q hQ
 simp only[Bool.and_eq_true]at hB
 by_cases hg:g=true
 ·obtain⟨v,h1,h2⟩:=mE r (fun g hg x y=>aT hg r) (hg▸he) (hp hg)
  exact xN hi (Region.noSelect_spec hB.1.1) fuel listed a w (Region.free_spec hi hB.1.2) (by simpa using hB.2) (.inl ⟨by rw[bV r hw,hg],fun w' hb=>h2 w' fun b hb'=>hb.block b hb'⟩) (hk _ w ⟨ok,h,r.put (bG hd) (fW hg h1)⟩ Q hQ)
 ·have hg':g=false:=by simpa using hg
  exact xN hi (Region.noSelect_spec hB.1.1) fuel listed a w (Region.free_spec hi hB.1.2) (by simpa using hB.2) (.inr ⟨by rw[bV r hw,hg'],rfl⟩) (hk _ w ⟨ok,h,r.put (bG hd) (fF hw hg')⟩ Q hQ)
theorem MG {y:Operand} {f:FuncId} {args:Array Operand} {ts:Array TypeId} {z:V} {xs caps:List V} {ds:List D} {g:Bool} {res:D} (hc:cS C) (hi:ops[i]?=some o) (hr:Region.ready .any ops listed=[i])
 (hw:gE ops o st=some g) (ho:o.op= .call {callee:= .value y,args:=args,argTypes:=ts}) (hy:ev g st y=some z) (hx:cF (some z)=some (f,caps)) (hl:evL g st args.toList=some xs) (ha:iY st (xs++caps)=some (ds,false))
 (hf:g=true→aJ C.P f ds res) (hd:cV C.nt o.dst=true) (hk:phW C ops fuel (listed.setIfInBounds i true) (st.put o.dst (gI o g (.d res))) K):phW C ops (fuel+1) listed st K:=by
 intro a w ⟨ok,h,r⟩ Q hQ
 refine⟨fun e=>(by rw[hr]at e;cases e),fun j hj=>?_⟩
 rw[hr]at hj
 obtain rfl:=List.mem_singleton.1 hj
 refine⟨o,hi,?_⟩
 by_cases hg:g=true
 rotate_left
 ·have hg':g=false:=by simpa using hg
  exact .inr ⟨by rw[bV r hw,hg'],hk _ _ ⟨ok,h,r.put (bG hd) (fF hw hg')⟩ Q hQ⟩
 replace hf:=hf hg
 obtain⟨cs,h1,h2,h3⟩:=fM hg r hx (aT hg r hy) hl
 rw[Array.toArray_toList]at h2 h3
 refine .inl ⟨by rw[bV r hw,hg],.inr ⟨f,_,oY hf.1 ho h1 w,?_⟩⟩
 refine(hf.2 ok w _ (fun k hk=>(r.mem.okb k hk).1) (r.mem.std hc) (yX r ha h2 h3)).mono fun e w' ⟨v,he,hbl,hr⟩=>⟨v,he,hbl,?_⟩
 refine hk _ _ ⟨fresh ok w w',h,?_⟩ Q hQ
 have hmem:=r.mem.below (ok':=fresh ok w w') hbl (fun b hb=> .inl hb) (fun b hb=>hb) hc.lt
 have r':Rep C st (fresh ok w w') h a w':=⟨hmem,r.defers,r.nt,r.pin,fun i y hy=>by
  obtain⟨h5,u,h6,h7⟩:=r.slot i y hy
  exact⟨h5,u,h6,h7.mono (fun b hb=>hbl.block b (r.mem.okb b hb).1) fun b hb=> .inl hb⟩⟩
 exact r'.put (bG hd) (fW hg (.d _ _ hr))
theorem Pr {g:Bool} (i:Nat) (hc:bB C P nt) (hi:ops[i]?=some o:=by rfl) (hB:(Region.noSelect ops&&Region.free .any ops listed i&&(Region.ready .any ops listed).contains i)=true:=by kernel_rfl) (hw:aA (gE ops o st) g:=by simp;exact aA.mk)
 (he:aA (ro P (fun g=>ev g st) g st.aD o.op) (x,p):=by simp;exact aA.mk) (hp:p:=by first|exact True.intro|omega|assumption|(simp;done)|(simp;omega)|(simp at*;omega)) (hd:cV nt o.dst=true:=by simp) {st2:St} (h2:aA (some (st.put o.dst (gI o g x))) st2:=by simp;exact aA.mk) (hk:phW C ops fuel (listed.setIfInBounds i true) st2 K):phW C ops (fuel+1) listed st K:=by
 obtain⟨rfl,rfl,hok⟩:=hc
 cases h2
 exact SB hi hB hw he (fun _=>hp) hd hk
theorem Pc (i:Nat) (hc:bB C P nt) {y:Operand} {f:FuncId} {args:Array Operand} {ts:Array TypeId} {d:Option Tmp} {ty:TypeId} {pos:String} {af:Array Edge} {gd:Option (Nat×Bool)} {z:V} {xs caps:List V} {ds:List D} {g:Bool} {res:D}
 (hi:ops[i]?=some {dst:=d,op:= .call {callee:= .value y,args:=args,argTypes:=ts},type:=ty,pos:=pos,after:=af,guard:=gd}:=by rfl) (hr:Region.ready .any ops listed=[i]:=by kernel_rfl)
 (hw:aA (gE ops {dst:=d,op:= .call {callee:= .value y,args:=args,argTypes:=ts},type:=ty,pos:=pos,after:=af,guard:=gd} st) g:=by simp;exact aA.mk)
 (hy:aA (ev g st y) z:=by simp;exact aA.mk) (hx:aA (cF (some z)) (f,caps):=by simp;exact aA.mk) (hl:aA (evL g st args.toList) xs:=by simp;exact aA.mk) (ha:aA (iY st (xs++caps)) (ds,false):=by simp;exact aA.mk) (hf:aJ P f ds res) (hd:cV nt d=true:=by simp) {st2:St} (h2:aA (some (st.put d (if gd.isNone then .d res else .when g (.d res)))) st2:=by simp;exact aA.mk)
 (hk:phW C ops fuel (listed.setIfInBounds i true) st2 K):phW C ops (fuel+1) listed st K:=by
 obtain⟨rfl,rfl,hok⟩:=hc
 cases h2
 exact MG hok hi hr hw rfl hy hx hl ha (fun _=>hf) hd hk
theorem Pz (hr:Region.ready .any ops listed=[]:=by kernel_rfl) (hk:K st):phW C ops fuel listed st K:=MF hr hk
theorem Pd (n:Nat) {st1:St} {id:Nat} {l:List Oper} (hc:bB C P nt) (hm:P.follows .mixedOrders=true:=by kernel_rfl) (hn:l.length=n:=by rfl) (hl:phW C l.toArray n (Array.replicate n false) st fun st'=>Le C st1 st') (hk:Q .normal st1):ewp C (.region id l.toArray true) Q st:=by
 obtain⟨rfl,rfl,hok⟩:=hc
 subst hn
 rintro a w ⟨ok,h,r⟩
 refine wp_mono (Q:=fun e a' w'=>e= .normal∧kZ C st1 a' w') (wp_region_any hm (xM (Q:=fun a' w'=>kZ C st1 a' w') (fun _ _ hq=>⟨rfl,hq⟩) _ _ _ _ (hl a _ ⟨ok,h,?_⟩ _ fun a' w' st' hle r'=>hle a' w' r'))) ?_
 ·exact r.below hok ((Below.refl _ w).drew)
 ·rintro e a' w' ⟨rfl,r'⟩
  exact⟨st1,hk,r'⟩
end
end Go.Lw
namespace Go.Lw
open Go.RowKit
theorem idp {p:Prop} (h:p):p:=h
structure FH (p:Prop):Prop where
 get:p
def Exs {ρ:Type} (P:Program) (nt:Nat) (G:ρ→Prop) (A:ρ→Ctx→Prop):Prop:= ∃r,G r∧ ∀C,bB C P nt→A r C
def aV (P:Program) (f:FuncId) (args:List D) (G:D→Prop):Prop:= ∃r,G r∧aJ P f args r
theorem mK {cs ds:List D} (hl:ds.length=cs.length) (hw: ∀(k:Nat) (d:D),ds[k]?=some d→ ∃d0,cs[k]?=some d0∧cJ d0 d):cJ (.agg cs) (.agg ds):=fun w ok v h=>by
 cases h with
 |agg _ vs g hn hg hr=>
  refine .agg ds vs g qD (fun i hi=>hg i qD) fun i d hd=>?_
  obtain⟨d0,h1,h2⟩:=hw i d hd
  exact h2 _ _ _ (hr i d0 h1)
theorem eZ {d d':D} {r:List D} (h:cJ d d'):cJ (.tup (d::r)) (.tup (d'::r)):=Fy rfl fun k x hk=>by
 cases k with
 |zero=>cases hk;exact⟨d,rfl,h⟩
 |succ k=>exact⟨x,qaZ,cJ.refl _⟩
def vS (P:Program) (f:FuncId) (args:List V) (aD:List (Nat×O)) (G:V×List (Nat×O)→Prop):Prop:= ∃r,G r∧bJ P f args aD r.1 r.2
theorem aV.mono {P:Program} {f:FuncId} {args:List D} {G G':D→Prop} (h:aV P f args G) (hg: ∀r,G r→ ∃r',cJ r r'∧G' r'):aV P f args G':=by
 obtain⟨r,h1,h2⟩:=h
 obtain⟨r',h3,h4⟩:=hg r h1
 exact⟨r',h4,h2.MD h3⟩
theorem aV.args {P:Program} {f:FuncId} {l m:List D} {G:D→Prop} (h:aV P f m G) (hl:l.length=m.length) (hw: ∀(i:Nat) (e:D),m[i]?=some e→ ∃d,l[i]?=some d∧cJ d e):aV P f l G:=by
 obtain⟨r,h1,h⟩:=h
 exact⟨r,h1,h.1,fun ok w vs hok hs ha=>h.2 ok w vs hok hs ⟨ha.1.trans hl,fun i e hi=>by
  obtain⟨d,h1,h2⟩:=hw i e hi
  obtain⟨v,h3,h4⟩:=ha.2 i d h1
  exact⟨v,h3,h2 _ _ _ h4⟩⟩⟩
section
variable {ρ:Type} {P:Program} {nt:Nat} {G:ρ→Prop} {A B:ρ→Ctx→Prop} {st:St} {Q:ρ→Ctx→Exit→St→Prop}
theorem aQ (k: ∀r C,bB C P nt→FH (B r C)→A r C) (h:Exs P nt G B):Exs P nt G A:=by
 obtain⟨r,h1,h2⟩:=h
 exact⟨r,h1,fun C hc=>k r C hc ⟨h2 C hc⟩⟩
theorem aB {c:Operand} {x y:Code} {t:Bool} (hc:aA (ev true st c) (.d (.lit (.bool t))):=by simp;exact aA.mk) (ht:t=true→Exs P nt G fun r C=>ewp C x (Q r C) st) (hf:t=false→Exs P nt G fun r C=>ewp C y (Q r C) st):
 Exs P nt G fun r C=>ewp C (.cond c x y) (Q r C) st:=by
 cases t with
 |true=>exact aQ (fun r C _ h=>gK hc (fun _=>h.get) fun e=>by cases e) (ht rfl)
 |false=>exact aQ (fun r C _ h=>gK hc (fun e=>by cases e) fun _=>h.get) (hf rfl)
def nL (C:Ctx) (body:Code) (Q:Exit→St→Prop):Nat→St→Prop
 |0,_=>False
 |n+1,st=>ewp C body (mG (nL C body Q n) Q) st
theorem Ih {C:Ctx} {body:Code} {Q:Exit→St→Prop} {n:Nat} {s1 s2:St} (hl:Le C s1 s2) (h:nL C body Q n s1):nL C body Q n s2:=by
 cases n with
 |zero=>exact h.elim
 |succ n=>exact bA hl h
theorem Ce {C:Ctx} {body:Code} {Q:Exit→St→Prop}: ∀{n:Nat} {st:St} {a:Act} {w:World},nL C body Q n st→kZ C st a w→Code.rounds C.P body (fun e a' w'=> ∃st',Q e st'∧kZ C st' a' w') n a w
 |0,_,_,_,h,_=>h.elim
 |n+1,st,a,w,h,r=>by
  refine wp_mono (h a w r) ?_
  rintro e a' w' ⟨st',hq,r'⟩
  cases e with
  |normal=>exact Ce hq r'
  |_=>exact⟨st',hq,r'⟩
theorem Ii {C:Ctx} {body:Code} {Q:Exit→St→Prop} {n:Nat} {st:St} (h:nL C body Q n st):ewp C (.loop body) Q st:=
 fun _ _ r=>wp_loop_rounds n (Ce h r)
theorem kV {α:Type} (S:α→St) (I:α→Prop) (μ:α→Nat) (x0:α) {body:Code} (h0:I x0) (hs: ∀C,bB C P nt→Le C (S x0) st)
 (round: ∀L:ρ→Ctx→St→Prop,(∀r C s1 s2,Le C s1 s2→L r C s1→L r C s2)→ ∀x,I x→(∀y,I y→μ y<μ x→Exs P nt G fun r C=>L r C (S y))→Exs P nt G fun r C=>ewp C body (mG (L r C) (Q r C)) (S x)):
 Exs P nt G fun r C=>ewp C (.loop body) (Q r C) st:=by
 have key: ∀n x,I x→μ x<n→Exs P nt G fun r C=>nL C body (Q r C) n (S x):=by
  intro n
  induction n with
  |zero=>intro x _ h;omega
  |succ n ih=>
   intro x hI hx
   exact round (fun r C s=>nL C body (Q r C) n s) (fun r C s1 s2 hl h=>Ih hl h) x hI fun y hy hyx=>ih y hy qD
 exact aQ (fun r C hc h=>bA (hs C hc) (Ii h.get)) (key (μ x0+1) x0 h0 qD)
theorem bI {G:D→Prop} {f:FuncId} {fn:Func} {c:Code} {args:List D} (hf:P.funcs[f]?=some fn) (hb:fn.body=some c) (hcall:iJ P f=true) (hnt:fn.ntmps=nt) (rs:List ResultVar) (hrs:fn.results=rs.toArray) (hn:args.length≤nt∧nt≤50000)
 (hbody:Exs P nt G fun r C=>ewp C c (Leaves C rs r) ⟨sF 0 args,[]⟩):aV P f args G:=by
 obtain⟨r,h1,h2⟩:=hbody
 exact⟨r,h1,aW hf hb hcall hnt rs hrs hn h2⟩
theorem vT {G:V×List (Nat×O)→Prop} {f:FuncId} {fn:Func} {c:Code} {args:List V} {aD:List (Nat×O)} (hf:P.funcs[f]?=some fn) (hb:fn.body=some c) (hcall:iJ P f=true) (hnt:fn.ntmps=nt) (rs:List ResultVar) (hrs:fn.results=rs.toArray) (hn:args.length≤nt∧nt≤50000∧aD.all (fun p=>decide (50000≤p.1))=true)
 (hbody:Exs P nt G fun r C=>ewp C c (nH C rs r.1 r.2) ⟨o5 0 args,aD⟩):vS P f args aD G:=by
 obtain⟨r,h1,h2⟩:=hbody
 exact⟨r,h1,cY hf hb hcall hnt rs hrs hn h2⟩
theorem Zy {C:Ctx} {st st':St} {p:Prop} {Q:Exit→St→Prop} {l l':List Oper} {id:Nat} (hc:bB C P nt) (he:Ends (iK P nt l.toArray false l (.go st True)) st' p l':=by simp;first|exact Ends.go|exact Ends.halt) (hp:p:=by first|exact True.intro|omega|assumption|(simp;done)|(simp;omega)|(simp at*;omega)) (hk:cC C l.toArray l' st' fun st'=>Q .normal st'):ewp C (.region id l.toArray false) Q st:=cH hc he hp hk
theorem Zg {C:Ctx} {st st':St} {p:Prop} {Q:Exit→St→Prop} {l l':List Oper} {id:Nat} (hc:bB C P nt) (hm:P.follows .mixedOrders=true:=by kernel_rfl) (hB:Region.lexB .any l.toArray=true:=by kernel_rfl) (he:Ends (iK P nt l.toArray true l (.go st True)) st' p l':=by simp;first|exact Ends.go|exact Ends.halt) (hp:p:=by first|exact True.intro|omega|assumption|(simp;done)|(simp;omega)|(simp at*;omega)) (hk:cL C l.toArray l' st' fun st'=>Q .normal st'):ewp C (.region id l.toArray true) Q st:=vQ hc hm hB he hp hk
theorem Vn {A B:ρ→Ctx→Prop} (h:Exs P nt G B) (k: ∀r C,bB C P nt→FH (B r C)→A r C:=by
 intro r C hc h
 refine idp ?_
 first|exact Zy hc (hk:=h.get)|exact Zo hc (hk:=h.get)|exact Zu hc (hk:=h.get)):Exs P nt G A:=aQ k h
theorem Vl {G:D→Prop} {rs:List ResultVar} {ds:List D} (he:aA (kT P st rs) ds:=by simp;exact aA.mk) (hG:G (BA ds)):Exs P nt G fun r C=>Leaves C rs r .ret st:=⟨BA ds,hG,fun C hc=>p9 hc he rfl⟩
theorem Vr {G:V×List (Nat×O)→Prop} (ids:List Nat) {rs:List ResultVar} {xs:List V} {os:List (Nat×O)} (he:aA (j7 P st rs) xs:=by simp;exact aA.mk) (ho:aA (dB st.aD ids) os:=by simp;exact aA.mk) (hG:G (Aa xs,os)):Exs P nt G fun r C=>nH C rs r.1 r.2 .ret st:=
 ⟨_,hG,fun C hc=>aE ids hc (Le.refl _ _) he ho rfl rfl⟩
theorem Va {A B:ρ→Ctx→Prop} (h:Exs P nt G B) (k: ∀r C,bB C P nt→FH (B r C)→A r C:=by
 intro r C hc h
 refine idp ?_
 with_reducible first|(apply Ya;exact h.get)|(apply Yb;exact h.get)|(apply Yc;exact h.get)|(apply Yd;exact h.get)|(apply Ye;exact h.get)|(apply Yf;exact h.get)|(apply Yg;exact h.get)|(apply Yh;exact h.get)|(apply Yi;exact h.get)|(apply Yj;exact h.get)|(apply Yk;exact h.get)|(apply Yl;exact h.get)|(apply Ym;exact h.get)|(apply Yn;exact h.get)|(apply Yo;exact h.get)|exact Yp (h:=h.get)|(apply Yq;exact h.get)|(apply Yr;exact h.get)|(apply Ys;exact h.get)):Exs P nt G A:=aQ k h
theorem Vb {A B:ρ→Ctx→Prop} (h:Exs P nt G B) (k: ∀r C,bB C P nt→FH (B r C)→A r C:=by
 intro r C hc h
 refine idp ?_
 first|exact Zy hc (hk:=h.get)|exact Zo hc (hk:=h.get)|exact Zu hc (hk:=h.get)|exact Zg hc (hk:=h.get)):Exs P nt G A:=aQ k h
theorem Vk (is ids:List Nat) {L:ρ→Ctx→St→Prop} (hL: ∀r C s1 s2,Le C s1 s2→L r C s1→L r C s2) {s2:St} {sl:List (Nat×V)} {os:List (Nat×O)} (h:Exs P nt G fun r C=>L r C s2) (h1:aA (dB st.aO is) sl:=by simp;exact aA.mk) (h2:aA (dB st.aD ids) os:=by simp;exact aA.mk) (he:s2=⟨sl,os⟩:=by simp):Exs P nt G fun r C=>L r C st:=
 aQ (fun r C _ hx=>hL r C _ _ (aC is ids h1 h2 he) hx.get) h
@[simp] def Dm {α:Type}:List (Nat×α)→List (Nat×α)→List (Nat×α)
  |[],l=>l
  |(i,x)::r,l=>Dm r (place i x l)
theorem dP {α:Type} (bs:List (Nat×Option Nat×Nat×Nat×List D)) (is ids:List Nat) (f:α→List (Nat×V)) (g:α→List (Nat×O)) (I:α→Prop) (μ:α→Nat) (x0:α) {body:Code} {st1:St} {sl:List (Nat×V)} {os:List (Nat×O)} (h0:I x0)
 (round: ∀L:ρ→Ctx→St→Prop,(∀r C s1 s2,Le C s1 s2→L r C s1→L r C s2)→ ∀x,I x→(∀y,I y→μ y<μ x→Exs P nt G fun r C=>L r C ⟨Dm (f y) sl,Dm (g y) os⟩)→Exs P nt G fun r C=>ewp C body (mG (L r C) (Q r C)) ⟨Dm (f x) sl,Dm (g x) os⟩)
 (hb:aA (iL bs st) st1:=by simp;exact aA.mk) (h1:aA (dB st1.aO is) sl:=by simp;exact aA.mk) (h2:aA (dB st1.aD ids) os:=by simp;exact aA.mk) (he:(⟨Dm (f x0) sl,Dm (g x0) os⟩:St)=⟨sl,os⟩:=by simp):
 Exs P nt G fun r C=>ewp C (.loop body) (Q r C) st:=
 kV (fun x=>⟨Dm (f x) sl,Dm (g x) os⟩) I μ x0 h0 (fun C hc=>by rw[he];exact cQ bs is ids hb h1 h2) round
theorem vU (is ids:List Nat) (i n:Nat) {body:Code} {sl:List (Nat×V)} {os:List (Nat×O)}
 (round: ∀L:ρ→Ctx→St→Prop,(∀r C s1 s2,Le C s1 s2→L r C s1→L r C s2)→ ∀j,j≤n→(∀k,k≤n→n-k<n-j→Exs P nt G fun r C=>L r C ⟨place i (.d (.lit (.int .i64 (k:Int)))) sl,os⟩)→Exs P nt G fun r C=>ewp C body (mG (L r C) (Q r C)) ⟨place i (.d (.lit (.int .i64 (j:Int)))) sl,os⟩)
 (h1:aA (dB st.aO is) sl:=by simp;exact aA.mk) (h2:aA (dB st.aD ids) os:=by simp;exact aA.mk) (he:place i (.d (.lit (.int .i64 ((0:Nat):Int)))) sl=sl:=by simp):
 Exs P nt G fun r C=>ewp C (.loop body) (Q r C) st:=
 kV (fun j:Nat=>⟨place i (.d (.lit (.int .i64 (j:Int)))) sl,os⟩) (· ≤n) (n- ·) 0 (Nat.zero_le _) (fun C hc=>by rw[he];exact aG is ids h1 h2) round
theorem Vle {c:Code} {st2:St} (hs: ∀C,bB C P nt→Le C st2 st) (h:Exs P nt G fun r C=>ewp C c (Q r C) st2):Exs P nt G fun r C=>ewp C c (Q r C) st:=aQ (fun r C hc h=>bA (hs C hc) h.get) h
theorem Vs (id:Nat) {c:Code} {st2:St} {q:Prop} (h:Exs P nt G fun r C=>ewp C c (Q r C) st2) (he:aA (xK id st) (st2,q):=by simp;exact aA.mk) (hp:q:=by first|exact True.intro|(simp;done)|(simp;omega)):Exs P nt G fun r C=>ewp C c (Q r C) st:=
 aQ (fun r C hc h=>tN id hc he hp h.get) h
theorem Vsw (id:Nat) {K:ρ→Ctx→St→Prop} {ops:Array Oper} {l:List Oper} {st2:St} {q:Prop} (h:Exs P nt G fun r C=>cC C ops l st2 (K r C)) (he:aA (xK id st) (st2,q):=by simp;exact aA.mk) (hp:q:=by first|exact True.intro|(simp;done)|(simp;omega)):Exs P nt G fun r C=>cC C ops l st (K r C):=
 aQ (fun r C hc h=>rB id hc he hp h.get) h
theorem Ve {K:ρ→Ctx→St→Prop} {ops:Array Oper} {rest:List Oper} {x:Operand} {f:FuncId} {args:Array Operand} {ts:Array TypeId} {d:Option Tmp} {ty:TypeId} {pos:String} {af:Array Edge} {gd:Option (Nat×Bool)} {y:V} {xs caps:List V} {ds:List D} {g:Bool} {G':D→Prop}
 (hw:aA (gE ops {dst:=d,op:= .call {callee:= .value x,args:=args,argTypes:=ts},type:=ty,pos:=pos,after:=af,guard:=gd} st) g:=by simp;exact aA.mk)
 (hy:aA (ev g st x) y:=by simp;exact aA.mk) (hx:aA (cF (some y)) (f,caps):=by simp;exact aA.mk) (hl:aA (evL g st args.toList) xs:=by simp;exact aA.mk) (ha:aA (iY st (xs++caps)) (ds,false):=by simp;exact aA.mk) (hf:aV P f ds G') (hd:cV nt d=true:=by simp)
 (hk: ∀res,G' res→Exs P nt G fun r C=>cC C ops rest (st.put d (if gd.isNone then .d res else .when g (.d res))) (K r C)):
 Exs P nt G fun r C=>cC C ops ({dst:=d,op:= .call {callee:= .value x,args:=args,argTypes:=ts},type:=ty,pos:=pos,after:=af,guard:=gd}::rest) st (K r C):=by
 obtain⟨res,h1,h2⟩:=hf
 exact aQ (fun r C hc h=>cP hc hw hy hx hl ha (fun _=>h2) rfl hd h.get) (hk res h1)
theorem Vf {K:ρ→Ctx→St→Prop} {ops:Array Oper} {rest:List Oper} {x:Operand} {f:FuncId} {args:Array Operand} {ts:Array TypeId} {d:Option Tmp} {ty:TypeId} {pos:String} {af:Array Edge} {gd:Option (Nat×Bool)} {y:V} {xs caps:List V} {ds:List D} {b g:Bool} {G':D→Prop}
 (hw:aA (gE ops {dst:=d,op:= .call {callee:= .value x,args:=args,argTypes:=ts},type:=ty,pos:=pos,after:=af,guard:=gd} st) g:=by simp;exact aA.mk)
 (hy:aA (ev g st x) y:=by simp;exact aA.mk) (hx:aA (cF (some y)) (f,caps):=by simp;exact aA.mk) (hl:aA (evL g st args.toList) xs:=by simp;exact aA.mk) (ha:aA (iY st (xs++caps)) (ds,b):=by simp;exact aA.mk) (hf:aV P f ds G') (hd:cV nt d=true:=by simp)
 (hfl: ∀res,G' res→flat res=true) (hk: ∀res,G' res→Exs P nt G fun r C=>cC C ops rest (st.put d (if gd.isNone then .d res else .when g (.d res))) (K r C)):
 Exs P nt G fun r C=>cC C ops ({dst:=d,op:= .call {callee:= .value x,args:=args,argTypes:=ts},type:=ty,pos:=pos,after:=af,guard:=gd}::rest) st (K r C):=by
 obtain⟨res,h1,h2⟩:=hf
 exact aQ (fun r C hc h=>cP hc hw hy hx hl ha (fun _=>h2) (by rw[hfl res h1];simp) hd h.get) (hk res h1)
theorem Vq {K:ρ→Ctx→St→Prop} {ops:Array Oper} {rest:List Oper} {x:Operand} {f:FuncId} {args:Array Operand} {ts:Array TypeId} {d:Option Tmp} {ty:TypeId} {pos:String} {af:Array Edge} {gd:Option (Nat×Bool)} {y:V} {xs caps:List V} {ds:List D} {b g:Bool} {G':D→Prop}
 (hw:aA (gE ops {dst:=d,op:= .call {callee:= .value x,args:=args,argTypes:=ts},type:=ty,pos:=pos,after:=af,guard:=gd} st) g:=by simp;exact aA.mk)
 (hy:aA (ev g st x) y:=by simp;exact aA.mk) (hx:aA (cF (some y)) (f,caps):=by simp;exact aA.mk) (hl:aA (evL g st args.toList) xs:=by simp;exact aA.mk) (ha:aA (iY st (xs++caps)) (ds,b):=by simp;exact aA.mk) (hf:aV P f ds G') (hd:cV nt d=true:=by simp)
 (hfl: ∀res,G' res→flat res=true) (hk: ∀res,G' res→Exs P nt G fun r C=>cL C ops rest (st.put d (if gd.isNone then .d res else .when g (.d res))) (K r C)):
 Exs P nt G fun r C=>cL C ops ({dst:=d,op:= .call {callee:= .value x,args:=args,argTypes:=ts},type:=ty,pos:=pos,after:=af,guard:=gd}::rest) st (K r C):=by
 obtain⟨res,h1,h2⟩:=hf
 exact aQ (fun r C hc h=>cW hc hw hy hx hl ha (fun _=>h2) (hfl res h1) hd h.get) (hk res h1)
theorem Vc {K:ρ→Ctx→St→Prop} {ops:Array Oper} {rest:List Oper} {x:Operand} {f:FuncId} {args:Array Operand} {ts:Array TypeId} {d:Option Tmp} {ty:TypeId} {pos:String} {af:Array Edge} {gd:Option (Nat×Bool)} {y:V} {xs caps:List V} {ds:List D} {b g:Bool} {res:D}
 (hw:aA (gE ops {dst:=d,op:= .call {callee:= .value x,args:=args,argTypes:=ts},type:=ty,pos:=pos,after:=af,guard:=gd} st) g:=by simp;exact aA.mk)
 (hy:aA (ev g st x) y:=by simp;exact aA.mk) (hx:aA (cF (some y)) (f,caps):=by simp;exact aA.mk) (hl:aA (evL g st args.toList) xs:=by simp;exact aA.mk) (ha:aA (iY st (xs++caps)) (ds,b):=by simp;exact aA.mk) (hf:aJ P f ds res) (hb:(!b||flat res)=true:=by simp) (hd:cV nt d=true:=by simp)
 (h:Exs P nt G fun r C=>cC C ops rest (st.put d (if gd.isNone then .d res else .when g (.d res))) (K r C)):
 Exs P nt G fun r C=>cC C ops ({dst:=d,op:= .call {callee:= .value x,args:=args,argTypes:=ts},type:=ty,pos:=pos,after:=af,guard:=gd}::rest) st (K r C):=
 aQ (fun r C hc h=>cP hc hw hy hx hl ha (fun _=>hf) hb hd h.get) h
theorem Vd {K:ρ→Ctx→St→Prop} {ops:Array Oper} {rest:List Oper} {x:Operand} {f:FuncId} {args:Array Operand} {ts:Array TypeId} {d:Option Tmp} {ty:TypeId} {pos:String} {af:Array Edge} {gd:Option (Nat×Bool)} {y:V} {xs caps:List V} {ds:List D} {b g:Bool} {res:D}
 (hw:aA (gE ops {dst:=d,op:= .call {callee:= .value x,args:=args,argTypes:=ts},type:=ty,pos:=pos,after:=af,guard:=gd} st) g:=by simp;exact aA.mk)
 (hy:aA (ev g st x) y:=by simp;exact aA.mk) (hx:aA (cF (some y)) (f,caps):=by simp;exact aA.mk) (hl:aA (evL g st args.toList) xs:=by simp;exact aA.mk) (ha:aA (iY st (xs++caps)) (ds,b):=by simp;exact aA.mk) (hf:aJ P f ds res) (hb:flat res=true:=by simp) (hd:cV nt d=true:=by simp)
 (h:Exs P nt G fun r C=>cL C ops rest (st.put d (if gd.isNone then .d res else .when g (.d res))) (K r C)):
 Exs P nt G fun r C=>cL C ops ({dst:=d,op:= .call {callee:= .value x,args:=args,argTypes:=ts},type:=ty,pos:=pos,after:=af,guard:=gd}::rest) st (K r C):=
 aQ (fun r C hc h=>cW hc hw hy hx hl ha (fun _=>hf) hb hd h.get) h
theorem Vm (σ:List (Nat×Nat)) {K:ρ→Ctx→St→Prop} {ops:Array Oper} {rest:List Oper} {f:FuncId} {cargs:List V} {cobjs:List (Nat×O)} {G':V×List (Nat×O)→Prop} {x:Operand} {args:Array Operand} {ts:Array TypeId} {d:Option Tmp} {ty:TypeId} {pos:String} {af:Array Edge} {gd:Option (Nat×Bool)} {y:V} {xs caps xc:List V} {ps ps2:List (Nat×O)}
 (hw:aA (gE ops {dst:=d,op:= .call {callee:= .value x,args:=args,argTypes:=ts},type:=ty,pos:=pos,after:=af,guard:=gd} st) true:=by simp;exact aA.mk)
 (hy:aA (ev true st x) y:=by simp;exact aA.mk) (hx:aA (cF (some y)) (f,caps):=by simp;exact aA.mk) (hl:aA (evL true st args.toList) xs:=by simp;exact aA.mk) (hxc:aA (some (xs++caps)) xc:=by simp;exact aA.mk) (hxs:rM σ cargs=xc:=by rfl) (hps:aA (some (eE σ cobjs)) ps:=by simp;exact aA.mk) (hpk:aA (dB st.aD (ps.map (·.1))) ps2:=by simp;exact aA.mk) (hu:ps=ps2:=by rfl) (hf:vS P f cargs cobjs G') (hd:cV nt d=true:=by simp)
 (hk: ∀rs cobjs',G' (rs,cobjs')→ ∃s2 r2,Dd σ cobjs cobjs' rs=true∧aA (some (jD σ cobjs' st)) s2∧aA (some (gJ σ rs)) r2∧Exs P nt G fun r C=>cC C ops rest (s2.put d r2) (K r C)):
 Exs P nt G fun r C=>cC C ops ({dst:=d,op:= .call {callee:= .value x,args:=args,argTypes:=ts},type:=ty,pos:=pos,after:=af,guard:=gd}::rest) st (K r C):=by
 obtain⟨⟨rs,cobjs'⟩,h1,h2⟩:=hf
 obtain⟨s2,r2,hσ,h3,h4,h5⟩:=hk rs cobjs' h1
 exact aQ (fun r C hc h=>aF σ h2 hc hw hy hx hl hxc hxs hps hpk hu hσ hd h3 h4 h.get) h5
end
end Go.Lw
