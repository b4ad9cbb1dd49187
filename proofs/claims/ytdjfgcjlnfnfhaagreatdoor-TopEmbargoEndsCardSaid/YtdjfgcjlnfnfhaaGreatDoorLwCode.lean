/- CODE ON LIST-LEVEL STATES: contracts of functions, regions, calls, branches, loops. -/
import Derived.Test.YtdjfgcjlnfnfhaaGreatDoorLwDict
import Derived.Deep.LoopGhost
import Derived.Deep.QuietTactic
import Derived.Scope
set_option linter.unusedSimpArgs false
set_option linter.unusedVariables false
namespace Go.Lw
open Go.RowKit
def iJ (P:Program) (f:FuncId):Bool:=match P.funcs[f]? with
 |some fn=> !(fn.name== "runtime.NumGoroutine")&&fn.body.isSome
 |none=>false
def fresh (ok:Nat→Prop) (w w':World):Nat→Prop:=fun k=>ok k∨(w.heap.size≤k∧k<w'.heap.size)
def kS (w:World) (ok:Nat→Prop) (args:List D) (vs:Array Value):Prop:=
 vs.size=args.length∧ ∀(i:Nat) (d:D),args[i]?=some d→ ∃v,vs[i]?=some v∧RdD w ok d v
def aJ (P:Program) (f:FuncId) (args:List D) (res:D):Prop:=
 iJ P f=true∧ ∀(ok:Nat→Prop) (w:World) (vs:Array Value),(∀k,ok k→k<w.heap.size)→Std P w→kS w ok args vs→
  Calls P f vs w fun e w'=> ∃v,e= .returned v∧Below w.heap.size w w'∧RdD w' (fresh ok w w') res v
def gE (ops:Array Oper) (o:Oper) (st:St):Option Bool:=
 match o.guard with
 |none=>some true
 |some (j,b)=>match(ops[j]?).bind (·.dst)with
  |some d=>match look d st.aO with
   |some (.d (.lit (.bool c)))=>some (c==b)
   |some (.when g (.d (.lit (.bool c))))=>some (g&&(c==b))
   |_=>none
  |none=>none
def gI (o:Oper) (g:Bool) (x:V):V:=if o.guard.isNone then x else .when g x
def cV (nt:Nat):Option Tmp→Bool
 |none=>true
 |some t=>decide (t<nt)
def Jv (P:Program) (nt:Nat) (o:Oper) (st:St):Option (St×Prop):=
 match o.op,o.dst with
 | .alloc t,some d=>match aL P t with
   |some zs=>if bK d st&&decide (d<nt)then some ({aO:=place d (.bp d 0) st.aO,aD:=place d (.box t (zs.map fun z=> .d (.lit z))) st.aD},True)else none
   |none=>none
 | .box t y,some d=>match ev true st y with
   |some x=>if(bH x).all jK&& !gH d (bH x)&&bK d st&&decide (d<nt)then some ({aO:=place d (.bp d 0) st.aO,aD:=place d (.box t (bH x)) st.aD},True)else none
   |none=>none
 | .store t y z,none=>match eSz P t,ev true st y,ev true st z with
   |some n,some (.bp id off),some x=>match look id st.aD with
    |some (.box ty cells)=>if(bH x).all jK&&(bH x).length==n&&decide (off+n≤cells.length)then
      some ({st with aD:=place id (.box ty (cells.take off++bH x++cells.drop (off+n))) st.aD},True)else none
    |_=>none
   |some n,some (.el id j off),some x=>match look id st.aD,vF (bH x)with
    |some (.own e sz gr es),some ds=>if(bH x).all jK&&(bH x).length==n&&decide (off+n≤sz)then
      some ({st with aD:=place id (.own e sz gr (es.set j ((es.getD j gr.2).take off++ds++(es.getD j gr.2).drop (off+n)))) st.aD},j<es.length)else none
    |_,_=>none
   |_,_,_=>none
 | .buildSlice t n parts,some d=>match bM P t with
   |some (e,sz)=>match aL P e with
    |some zs=>match tF sz (List.replicate n (zs.map D.lit)) (parts.toList.map fun q=>(q.1,ev true st q.2))with
     |some es=>if zs.length==sz&&decide (0<sz)&&decide (n*sz≤16777216)&&bK d st&&decide (d<nt)then some ({aO:=place d (.os d n) st.aO,aD:=place d (.own e sz (true,zs.map D.lit) es) st.aD},True)else none
     |none=>none
    |none=>none
   |none=>none
 | .makeSlice t y z,some d=>match bM P t,ev true st y,ev true st z with
   |some (e,sz),some (.d (.lit (.int _ n))),some (.d (.lit (.int _ m)))=>match cK P e,aL P e with
    |some b,some zs=>if n=m∧(zs.length==sz&&decide (0<sz)&&bK d st&&decide (d<nt))then
      some ({aO:=place d (.os d n.toNat) st.aO,aD:=place d (.own e sz (true,zs.map D.lit) (List.replicate n.toNat (zs.map D.lit))) st.aD},0≤n∧(b:Int)*n≤281474976710656∧n≤9223372036854775807)else none
    |_,_=>none
   |_,_,_=>none
 | .call c,some d=>match c.callee,c.args.toList,c.argTypes.toList with
   | .builtin .append,[y,z],[t,tx]=>match bM P t with
     |some (e,sz)=>match cK P e,aL P e,ev true st y with
      |some b,some zs,some (.os id n)=>match look id st.aD,EM P st.aD tx sz (ev true st z)with
       |some (.own e' sz' gr es),some (news,p)=>if e'=e∧sz'=sz∧gr.1=true∧zs.length=sz∧0<sz∧id<100000∧d<nt then
         some ({aO:=place d (.os id (n+news.length)) (mF id st.aO),aD:=place id (.own e sz gr (es.take n++news)) (iI id st.aD)},
          p∧n≤es.length∧n+news.length≤9223372036854775807∧(n+news.length)*b≤140737488355328)else none
       |_,_=>none
      |some b,some zs,some (.d (.lit (.slice none 0 0)))=>match EM P (place d (.own e sz (true,zs.map D.lit) []) st.aD) tx sz (ev true st z)with
       |some (news,p)=>if zs.length=sz∧0<sz∧bK d st=true∧(look d st.aD).isNone=true∧d<nt then
         some ({aO:=place d (.os d (0+news.length)) (mF d st.aO),aD:=place d (.own e sz (true,zs.map D.lit) ([]++news)) (iI d (place d (.own e sz (true,zs.map D.lit) []) st.aD))},
          p∧0+news.length≤9223372036854775807∧(0+news.length)*b≤140737488355328)else none
       |_=>none
      |_,_,_=>none
     |none=>none
   |_,_,_=>none
 | .range t y,some d=>match ev true st y with
   |some (.d (.lit (.string s)))=>if aP P t&&bK d st&&decide (d<nt)then some ({aO:=place d (.bp d 0) st.aO,aD:=place d (.raw (.stringIter s 0)) st.aD},True)else none
   |_=>none
 | .convert s t y,some d=>match ev true st y with
   |some (.d (.lit (.string l)))=>match bM P t with
    |some (e,1)=>if aP P s&&lW P t&&bK d st&&decide (d<nt)then
      some ({aO:=place d (.os d l.size) st.aO,aD:=place d (.own e 1 (false,[.lit (.int .u8 0)]) (l.data.toList.map aZ)) st.aD},l.size≤9223372036854775807)else none
    |_=>none
   |some (.os id n)=>match look id st.aD with
    |some (.own e sz gr es)=>if s==t&&lW P t&&gr.1&&decide (d<nt)then
      some ({aO:=place d (.os id n) st.aO,aD:=place id (.own e sz (false,gr.2) es) st.aD},es≠[])else none
    |_=>none
   |_=>none
 |_,_=>none
def EQ (P:Program) (nt:Nat) (o:Oper) (st:St):Option (St×Prop):=orX (Jv P nt o st) (OX P nt o st)
where orX (x y:Option (St×Prop)):Option (St×Prop):=match x with|some r=>some r|none=>y
section
variable {C:Ctx} {st st':St} {ok:Nat→Prop} {h:Nat→Hd} {a:Act} {w w':World} {o:Oper} {x:V} {p:Prop} {nt:Nat}
theorem bG {d:Option Tmp} (hd:cV nt d=true): ∀t,d=some t→t<nt:=fun t ht=>by subst ht;simpa[cV]using hd
theorem ER (hc:cS C) (hnt:nt=C.nt) (he:Jv C.P nt o st=some (st',p)):j6 C o st st' p:=by
 unfold Jv at he
 split at he
 ·rename_i t d ho hd
  split at he
  ·rename_i zs hz
   split at he
   ·rename_i hb
    simp only[Bool.and_eq_true,decide_eq_true_eq]at hb
    obtain⟨rfl,rfl⟩:=Prod.mk.inj (Option.some.inj he)
    exact HR hnt hc ho hd hz hb.1 hb.2
   ·cases he
  ·cases he
 ·rename_i t y d ho hd
  split at he
  ·rename_i x hx
   split at he
   ·rename_i hb
    simp only[Bool.and_eq_true,decide_eq_true_eq,Bool.not_eq_true']at hb
    obtain⟨rfl,rfl⟩:=Prod.mk.inj (Option.some.inj he)
    exact Mr hnt hc ho hd hx hb.1.1.1 hb.1.1.2 hb.1.2 hb.2
   ·cases he
  ·cases he
 ·rename_i t y z ho hd
  split at he
  ·rename_i n id off x hn hy hz
   split at he
   ·rename_i ty cells hl
    split at he
    ·rename_i hb
     simp only[Bool.and_eq_true,decide_eq_true_eq,beq_iff_eq]at hb
     obtain⟨rfl,rfl⟩:=Prod.mk.inj (Option.some.inj he)
     exact HS ho hd hn hy hl hz hb.1.1 hb.1.2 hb.2
    ·cases he
   ·cases he
  ·rename_i n id j off x hn hy hz
   split at he
   ·rename_i e sz gr es ds hl hds
    split at he
    ·rename_i hb
     simp only[Bool.and_eq_true,decide_eq_true_eq,beq_iff_eq]at hb
     obtain⟨rfl,rfl⟩:=Prod.mk.inj (Option.some.inj he)
     exact C4 ho hd hn hy hl hz hb.1.1 hds hb.1.2 hb.2
    ·cases he
   ·cases he
  ·cases he
 ·rename_i t n parts d ho hd
  split at he
  ·rename_i e sz hel
   split at he
   ·rename_i zs hz
    split at he
    ·rename_i es hes
     split at he
     ·rename_i hb
      simp only[Bool.and_eq_true,decide_eq_true_eq,beq_iff_eq]at hb
      obtain⟨rfl,rfl⟩:=Prod.mk.inj (Option.some.inj he)
      exact Ms hnt hc ho hd hel hz hb.1.1.1.1 hb.1.1.1.2 hb.1.1.2 hes hb.1.2 hb.2
     ·cases he
    ·cases he
   ·cases he
  ·cases he
 ·rename_i t y z d ho hd
  split at he
  ·rename_i e sz k n k' m hel hy hz
   split at he
   ·rename_i b zs hby hzs
    split at he
    ·rename_i hb
     obtain⟨rfl,hb⟩:=hb
     simp only[Bool.and_eq_true,decide_eq_true_eq,beq_iff_eq]at hb
     obtain⟨rfl,rfl⟩:=Prod.mk.inj (Option.some.inj he)
     exact KA hnt hc ho hd hel hby hzs hb.1.1.1 hb.1.1.2 hy hz hb.1.2 hb.2
    ·cases he
   ·cases he
  ·cases he
 ·rename_i c d ho hd
  obtain⟨callee,args,ts⟩:=c
  obtain⟨args⟩:=args
  obtain⟨ts⟩:=ts
  simp only at he
  split at he
  ·rename_i y z t tx
   split at he
   ·rename_i e sz hel
    split at he
    ·rename_i b zs id n hby hzs hy
     split at he
     ·rename_i e' sz' gr es news q hl hsrc
      split at he
      ·rename_i hb
       obtain⟨rfl,rfl,h1,h2,h3,h4,h5⟩:=hb
       obtain⟨rfl,rfl⟩:=Prod.mk.inj (Option.some.inj he)
       exact EN hnt hc ho hd hel hby hzs h2 h3 hy hl h1 hsrc h4 h5
      ·cases he
     ·cases he
    ·rename_i b zs hby hzs hy
     split at he
     ·rename_i news q hsrc
      split at he
      ·rename_i hb
       obtain⟨h2,h3,h4,h5,h6⟩:=hb
       obtain⟨rfl,rfl⟩:=Prod.mk.inj (Option.some.inj he)
       exact yJ hnt hc ho hd hel hby hzs h2 h3 hy h4 h5 hsrc h6
      ·cases he
     ·cases he
    ·cases he
   ·cases he
  ·cases he
 ·rename_i t y d ho hd
  split at he
  ·rename_i s hy
   split at he
   ·rename_i hb
    simp only[Bool.and_eq_true,decide_eq_true_eq]at hb
    obtain⟨rfl,rfl⟩:=Prod.mk.inj (Option.some.inj he)
    exact HW hnt hc ho hd hb.1.1 hy hb.1.2 hb.2
   ·cases he
  ·cases he
 ·rename_i s t y d ho hd
  split at he
  ·rename_i l hy
   split at he
   ·rename_i e hel
    split at he
    ·rename_i hb
     simp only[Bool.and_eq_true,decide_eq_true_eq]at hb
     obtain⟨rfl,rfl⟩:=Prod.mk.inj (Option.some.inj he)
     exact HV hnt hc ho hd hb.1.1.1 hb.1.1.2 hel hy hb.1.2 hb.2
    ·cases he
   ·cases he
  ·rename_i id n hy
   split at he
   ·rename_i e sz gr es hl
    split at he
    ·rename_i hb
     simp only[Bool.and_eq_true,decide_eq_true_eq,beq_iff_eq]at hb
     obtain⟨⟨⟨rfl,h1⟩,h2⟩,h3⟩:=hb
     obtain⟨rfl,rfl⟩:=Prod.mk.inj (Option.some.inj he)
     exact KC hnt hc ho hd h1 hy hl h2 h3
    ·cases he
   ·cases he
  ·cases he
 ·cases he
theorem zX (hc:cS C) (hnt:nt=C.nt) (he:EQ C.P nt o st=some (st',p)):j6 C o st st' p:=by
 unfold EQ EQ.orX at he
 split at he
 ·rename_i r hr
  cases he
  exact ER hc hnt hr
 ·exact HY hc hnt he
def cC (C:Ctx) (ops:Array Oper) (l:List Oper) (st:St) (K:St→Prop):Prop:=
 ∀a w,kZ C st a w→ ∀Q:Exit→Act→World→Prop,(∀a' w' st',K st'→kZ C st' a' w'→Q .normal a' w')→wpList C.P ops Q l a w
theorem e9 {ops:Array Oper} {K:St→Prop} (hk:K st):cC C ops [] st K:=fun a w r Q hQ=>wpList_nil (hQ a w st hk r)
theorem bV {ops:Array Oper} {b:Bool} (r:Rep C st ok h a w) (hw:gE ops o st=some b):Region.wanted o (yielded ops a.tmps)=b:=by
 unfold gE at hw
 unfold Region.wanted
 split at hw
 ·rename_i hg
  cases hw;simp[hg]
 ·rename_i j c hg
  split at hw
  ·rename_i d hd
   split at hw
   ·rename_i v hv
    cases hw
    obtain⟨_,u,h1,h2⟩:=r.slot d _ hv
    have e:=aX h2
    subst e
    have hy:yielded ops a.tmps j=some v:=by simp[yielded,hd,h1]
    simp only[hg,hy]
    cases v<;>cases c<;>rfl
   ·rename_i g v hv
    cases hw
    obtain⟨_,u,h1,h2⟩:=r.slot d _ hv
    cases h2 with
    |when _ _ _ ht hf=>
     cases g
     ·have e:=hf rfl
      subst e
      have hy:yielded ops a.tmps j=none:=by simp[yielded,hd,h1,undef]
      simp only[hg,hy]
      rfl
     ·have e:=aX (ht rfl)
      subst e
      have hy:yielded ops a.tmps j=some v:=by simp[yielded,hd,h1]
      simp only[hg,hy]
      cases v<;>cases c<;>rfl
   ·cases hw
  ·cases hw
theorem fF {ops:Array Oper} {g:Bool} (hw:gE ops o st=some g) (hn:g=false) {v:V}:RdV w ok h (gI o g v) undef:=by
 subst hn
 unfold gI
 split
 ·rename_i hg
  have:o.guard=none:=by cases h:o.guard<;>simp_all
  simp[gE,this]at hw
 ·exact .when _ _ _ (fun e=>by cases e) (fun _=>rfl)
theorem fW {g:Bool} (hn:g=true) {x:V} {v:Value} (hx:RdV w ok h x v):RdV w ok h (gI o g x) v:=by
 unfold gI
 split
 ·exact hx
 ·exact .when _ _ _ (fun _=>hx) (fun e=>by rw[hn]at e;cases e)
theorem zY {ops:Array Oper} {rest:List Oper} {K:St→Prop} (hw:gE ops o st=some true) (hd:j6 C o st st' p) (hp:p) (hk:cC C ops rest st' K):cC C ops (o::rest) st K:=by
 intro a w ⟨ok,h,r⟩ Q hQ
 refine wpList_step fun K' hK=>?_
 rw[bV r hw,if_pos rfl]
 obtain⟨v,w',ok',h',hr,u,hu,r'⟩:=hd ok h a w r hp
 unfold Oper.wp
 rw[hr]
 have:=hK _ _ (hk _ _ ⟨ok',h',r'⟩ Q hQ)
 rcases hu with rfl|⟨rfl,rfl⟩<;>exact this
theorem OZ {ops:Array Oper} {rest:List Oper} {K:St→Prop} {g:Bool} (hw:gE ops o st=some g) (he:ro C.P (fun g=>ev g st) g st.aD o.op=some (x,p)) (hp:g=true→p) (hd:cV C.nt o.dst=true)
 (hk:cC C ops rest (st.put o.dst (gI o g x)) K):cC C ops (o::rest) st K:=by
 intro a w ⟨ok,h,r⟩ Q hQ
 refine wpList_step fun K' hK=>?_
 rw[bV r hw]
 by_cases hg:g=true
 ·rw[if_pos hg]
  obtain⟨v,h1,h2⟩:=mE r (fun g hg x y=>aT hg r) (hg▸he) (hp hg)
  unfold Oper.wp
  rw[h2 w (fun _ _=>rfl)]
  exact hK _ _ (hk _ _ ⟨ok,h,r.put (bG hd) (fW hg h1)⟩ Q hQ)
 ·rw[if_neg hg]
  exact hK _ _ (hk _ _ ⟨ok,h,r.put (bG hd) (fF hw QJ)⟩ Q hQ)
theorem B7 {ops:Array Oper} {rest:List Oper} {K:St→Prop} (hw:gE ops o st=some false) (hd:cV C.nt o.dst=true) (hk:cC C ops rest (st.put o.dst .any) K):cC C ops (o::rest) st K:=by
 intro a w ⟨ok,h,r⟩ Q hQ
 refine wpList_skip (bV r hw) (hk _ _ ⟨ok,h,r.put (bG hd) (.any _)⟩ Q hQ)
theorem KE {ops:Array Oper} {rest:List Oper} {K:St→Prop} {it:Operand} {d:Tmp} {id pos:Nat} {s:ByteArray} (hw:gE ops o st=some true) (ho:o.op= .next it true) (hdst:o.dst=some d) (hy:ev true st it=some (.bp id 0)) (hl:look id st.aD=some (.raw (.stringIter s pos))) (hd:d<C.nt)
 (h1:pos<s.size→cC C ops rest {aO:=place d (.d (.tup [.lit (.bool true),.lit (.int .i64 pos),.lit (.int .i32 ((Utf8.decode s pos).1:Int))])) st.aO,aD:=place id (.raw (.stringIter s (pos+(Utf8.decode s pos).2))) st.aD} K)
 (h2: ¬pos<s.size→cC C ops rest (st.put (some d) (.d (.tup [.lit (.bool false)]))) K):cC C ops (o::rest) st K:=by
 by_cases hp:pos<s.size
 ·exact zY hw (KD ho hdst hy hl hd) hp (h1 hp)
 ·exact zY hw (Bu ho hdst hy hl hd) hp (h2 hp)
inductive Bx where
 |go (st:St) (p:Prop)
 |halt (st:St) (p:Prop) (left:List Oper)
 |bad
def Mu (nt:Nat) (o:Oper) (st:St) (p:Prop) (g:Bool):Option (V×Prop)→Bx
 |some (x,q)=>bif cV nt o.dst then .go (st.put o.dst (gI o g x)) (p∧(g=true→q))else .bad
 |none=> .bad
def Mv (o:Oper) (st:St) (p:Prop):Option (St×Prop)→Bx
 |some (st',q)=> .go st' (p∧q)
 |none=> .halt st p [o]
def Jw (P:Program) (nt:Nat) (quiet:Bool) (o:Oper) (st:St) (p:Prop):Bool→Bx
 |true=>bif quiet then .halt st p [o]else Mv o st p (EQ P nt o st)
 |false=>bif cV nt o.dst then .go (st.put o.dst .any) p else .bad
def HZ:Op→Bool
 | .call c=>match c.callee with| .value _=>true|_=>false
 |_=>false
def Jx (P:Program) (nt:Nat) (quiet:Bool) (o:Oper) (st:St) (p:Prop) (g:Bool):Option (V×Prop)→Bx
 |some xq=>Mu nt o st p g (some xq)
 |none=>bif HZ o.op then .halt st p [o]else Jw P nt quiet o st p g
def stepG (P:Program) (nt:Nat) (quiet:Bool) (o:Oper) (st:St) (p:Prop):Option Bool→Bx
 |some g=>Jx P nt quiet o st p g (ro P (fun g=>ev g st) g st.aD o.op)
 |none=> .halt st p [o]
def step1 (P:Program) (nt:Nat) (ops:Array Oper) (quiet:Bool) (o:Oper):Bx→Bx
 | .go st p=>stepG P nt quiet o st p (gE ops o st)
 | .halt st p left=> .halt st p (left++[o])
 | .bad=> .bad
def iK (P:Program) (nt:Nat) (ops:Array Oper) (quiet:Bool):List Oper→Bx→Bx
 |[],m=>m
 |o::rest,m=>iK P nt ops quiet rest (step1 P nt ops quiet o m)
theorem pZ {P:Program} {ops:Array Oper} {quiet:Bool}: ∀(l left:List Oper) (st:St) (p:Prop),iK P nt ops quiet l (.halt st p left)= .halt st p (left++l)
 |[],left,st,p=>by simp[iK]
 |o::rest,left,st,p=>by simp only[iK,step1,pZ rest,List.append_assoc,List.singleton_append]
theorem tI {P:Program} {ops:Array Oper} {quiet:Bool}: ∀(l:List Oper),iK P nt ops quiet l .bad= .bad
 |[]=>rfl
 |o::rest=>by simp only[iK,step1,tI rest]
theorem lI {P:Program} {ops:Array Oper} {quiet:Bool} {q:Prop}:
 (∃g x r,gE ops o st=some g∧ro P (fun g=>ev g st) g st.aD o.op=some (x,r)∧cV nt o.dst=true∧step1 P nt ops quiet o (.go st q)= .go (st.put o.dst (gI o g x)) (q∧(g=true→r)))∨
 (quiet=false∧ ∃st' r,gE ops o st=some true∧EQ P nt o st=some (st',r)∧step1 P nt ops quiet o (.go st q)= .go st' (q∧r))∨
 (gE ops o st=some false∧cV nt o.dst=true∧step1 P nt ops quiet o (.go st q)= .go (st.put o.dst .any) q)∨
 step1 P nt ops quiet o (.go st q)= .halt st q [o]∨step1 P nt ops quiet o (.go st q)= .bad:=by
 simp only[step1]
 cases hg:gE ops o st with
 |none=>exact .inr (.inr (.inr (.inl rfl)))
 |some g=>
  simp only[stepG]
  cases hr:ro P (fun g=>ev g st) g st.aD o.op with
  |some xr=>
   obtain⟨x,r⟩:=xr
   simp only[Jx,Mu]
   cases hd:cV nt o.dst with
   |true=>exact .inl ⟨g,x,r,rfl,hr,rfl,rfl⟩
   |false=>exact .inr (.inr (.inr (.inr rfl)))
  |none=>
   simp only[Jx]
   cases hco:HZ o.op with
   |true=>exact .inr (.inr (.inr (.inl rfl)))
   |false=>
   simp only[cond_false]
   cases g with
   |true=>
    simp only[Jw]
    cases quiet with
    |true=>exact .inr (.inr (.inr (.inl rfl)))
    |false=>
     cases hm:EQ P nt o st with
     |none=>exact .inr (.inr (.inr (.inl rfl)))
     |some sr=>exact .inr (.inl ⟨by trivial,sr.1,sr.2,by trivial,by trivial,by trivial⟩)
   |false=>
    simp only[Jw]
    cases hd:cV nt o.dst with
    |true=>exact .inr (.inr (.inl ⟨by trivial,by trivial,by trivial⟩))
    |false=>exact .inr (.inr (.inr (.inr rfl)))
def Ends:Bx→St→Prop→List Oper→Prop
 | .go st p,st',p',l=>st=st'∧p=p'∧l=[]
 | .halt st p left,st',p',l=>st=st'∧p=p'∧l=left
 | .bad,_,_,_=>False
theorem Ends.go:Ends (.go st p) st p []:=⟨rfl,rfl,rfl⟩
theorem Ends.halt {l:List Oper}:Ends (.halt st p l) st p l:=⟨rfl,rfl,rfl⟩
theorem kF {P:Program} {ops:Array Oper} {quiet:Bool}: ∀{l l':List Oper} {st st':St} {q p:Prop},Ends (iK P nt ops quiet l (.go st q)) st' p l'→p→q
 |[],l',st,st',q,p,he,hp=>by
  obtain⟨rfl,rfl,rfl⟩:=he
  exact hp
 |o::rest,l',st,st',q,p,he,hp=>by
  simp only[iK]at he
  rcases lI (P:=P) (nt:=nt) (ops:=ops) (quiet:=quiet) (o:=o) (st:=st) (q:=q)with⟨g,x,r,_,_,_,e⟩|⟨_,s1,r,_,_,e⟩|⟨_,_,e⟩|e|e<;>rw[e]at he
  ·exact(kF he hp).1
  ·exact(kF he hp).1
  ·exact kF he hp
  ·rw[pZ]at he
   obtain⟨rfl,rfl,rfl⟩:=he
   exact hp
  ·rw[tI]at he
   exact he.elim
theorem kG (hc:cS C) (hnt:nt=C.nt) {ops:Array Oper} {K:St→Prop}: ∀{l l':List Oper} {st st':St} {q p:Prop},Ends (iK C.P nt ops false l (.go st q)) st' p l'→p→cC C ops l' st' K→cC C ops l st K
 |[],l',st,st',q,p,he,hp,hk=>by
  obtain⟨rfl,rfl,rfl⟩:=he
  exact hk
 |o::rest,l',st,st',q,p,he,hp,hk=>by
  simp only[iK]at he
  rcases lI (P:=C.P) (nt:=nt) (ops:=ops) (quiet:=false) (o:=o) (st:=st) (q:=q)with⟨g,x,r,h1,h2,h3,e⟩|⟨_,s1,r,h1,h2,e⟩|⟨h1,h2,e⟩|e|e<;>rw[e]at he
  ·exact OZ h1 h2 (kF he hp).2 (hnt▸h3) (kG hc hnt he hp hk)
  ·exact zY h1 (zX hc hnt h2) (kF he hp).2 (kG hc hnt he hp hk)
  ·exact B7 h1 (hnt▸h2) (kG hc hnt he hp hk)
  ·rw[pZ]at he
   obtain⟨rfl,rfl,rfl⟩:=he
   exact hk
  ·rw[tI]at he
   exact he.elim
def sD (st:St):V→Option (D×Bool)
 | .d x=>some (x,false)
 | .os id n=>match look id st.aD with
   |some (.own _ _ gr es)=>if n≤es.length then some (.sl n fun i=>es.getD i gr.2,true)else none
   |_=>none
 | .bp id off=>match look id st.aD with
   |some (.box _ cells)=>(vF cells).map fun ds=>(.ip ds off,true)
   |_=>none
 |_=>none
mutual
def asD (st:St):V→Option (D×Bool)
 | .fS cs=>(iY st cs).map fun r=>(.agg r.1,r.2)
 | .gG cs=>(iY st cs).map fun r=>(.tup r.1,r.2)
 | .eR fn cs=>(iY st cs).map fun r=>(.clo fn r.1,r.2)
 | .d x=>sD st (.d x)
 | .os id n=>sD st (.os id n)
 | .bp id off=>sD st (.bp id off)
 | .el _ _ _| .ot _ _ _| .mp _| .any| .when _ _=>none
def iY (st:St):List V→Option (List D×Bool)
 |[]=>some ([],false)
 |x::r=>match asD st x,iY st r with
  |some (d,b),some (ds,c)=>some (d::ds,b||c)
  |_,_=>none
end
def dU (ok:Nat→Prop) (h:Nat→Hd) (st:St):Nat→Prop:=fun k=>ok k∨ ∃id o,look id st.aD=some o∧(h id).blk=some k
theorem nG (r:Rep C st ok h a w) {y:D} {b:Bool} (he:sD st x=some (y,b)) {v:Value} (hx:RdV w ok h x v):RdD w (if b then dU ok h st else ok) y v:=by
 unfold sD at he
 split at he
 ·obtain⟨rfl,rfl⟩:=Prod.mk.inj (Option.some.inj he)
  cases hx with|d _ _ h=>exact h
 ·rename_i id n
  split at he
  ·rename_i e sz grow es hl
   split at he
   ·rename_i hn
    obtain⟨rfl,rfl⟩:=Prod.mk.inj (Option.some.inj he)
    cases hx with
    |os _ _ hcap=>
     obtain⟨hsz,hcm,h5⟩:=r.mem.obj id _ hl
     rw[if_pos rfl]
     rcases h5 with⟨h6,h7,h8⟩|⟨b',cur,fz,h1,h2,h3,_,h4,h5,h6⟩
     ·subst h7
      obtain rfl:n=0:=by simpa using hn
      exact .sl 0 _ _ _ 0 0 0 (fun _ _=>undef) qD hcm (fun h=>by omega) (fun i hi=>by omega) (fun i k hi=>by omega) (fun i k d hi=>by omega)
     ·let g:Nat→Nat→Value:=fun i k=>cur.getD (i*sz+k) undef
      have hcur: ∀i k,i<n→k<sz→cur[i*sz+k]?=some (g i k):=fun i k hi hk=>by
       have:i*sz+k<cur.size:=by
        rw[h5]
        have:(i+1)*sz≤(h id).cap*sz:=Nat.mul_le_mul_right _ qD
        rw[Nat.add_mul]at this
        omega
       simp[g,Array.getElem?_eq_getElem this]
      have hes: ∀i,i<n→es[i]?=some (es.getD i grow.2):=fun i hi=>by simp[List.getD,List.getElem?_eq_getElem (show i<es.length by omega)]
      refine .sl n _ _ _ sz b' 0 g hcap hcm (fun _=>⟨by simp[Hd.addr,h1],.inr ⟨id,_,hl,h1⟩⟩) (fun i hi=>(h6 i _ (hes i hi)).1) (fun i k hi hk=>?_) (fun i k d hi hk=>?_)
      ·have:=hcur i k hi hk
       simpa[World.cell?,h2]using this
      ·obtain⟨v,h7,h8⟩:=(h6 i _ (hes i hi)).2 k d hk
       have hkl:k<sz:=by rw[←(h6 i _ (hes i hi)).1];exact(List.getElem?_eq_some_iff.1 hk).1
       rw[hcur i k hi hkl]at h7
       cases h7
       exact h8.mono (fun _ _=>rfl) fun _ hb=> .inl hb
   ·cases he
  ·cases he
 ·rename_i id off
  split at he
  ·rename_i ty cells hl
   obtain⟨ds,hds,hx'⟩:=Option.map_eq_some_iff.1 he
   obtain⟨rfl,rfl⟩:=Prod.mk.inj hx'
   cases hx with
   |bp _ _ b hb=>
    obtain⟨b',cs,h1,h2,h3,h4⟩:=r.mem.obj id _ hl
    obtain rfl:b'=b:=by rw[h1]at hb;exact Option.some.inj hb
    have e:=fU hds
    subst e
    rw[if_pos rfl]
    have key:RdD w (dU ok h st) (.ip ds off) (.pointer (some ⟨b',0+off,none⟩)):=by
     refine .ip ds off b' 0 (fun k=>cs.getD k undef) (.inr ⟨id,_,hl,h1⟩) (fun k hk=>?_) (fun k d hk=>?_)
     ·have:k<cs.size:=by rw[h3];simpa using hk
      simp[World.cell?,h2,Array.getElem?_eq_getElem this]
     ·obtain⟨v,h5,h6⟩:=h4 k (.d d) (by simp[hk])
      have hv:cs.getD k undef=v:=by simp[Array.getD_eq_getD_getElem?,h5]
      rw[hv]
      cases h6 with|d _ _ h=>exact h.mono (fun _ _=>rfl) fun _ hb=> .inl hb
    rw[Nat.zero_add]at key
    exact key
  ·cases he
 ·cases he
theorem tJ {cs:List V}: ∀{ds:List D} {b:Bool},iY st cs=some (ds,b)→cs.length=ds.length∧ ∀(i:Nat) (d:D),ds[i]?=some d→ ∃x c,cs[i]?=some x∧asD st x=some (d,c)∧(c=true→b=true):=by
 induction cs with
 |nil=>
  intro ds b he
  obtain⟨rfl,rfl⟩:=Prod.mk.inj (Option.some.inj he)
  exact⟨rfl,fun i d hi=>by simp at hi⟩
 |cons x r ih=>
  intro ds b he
  simp only[iY]at he
  split at he
  ·rename_i d b1 ds' c hd hds
   obtain⟨rfl,rfl⟩:=Prod.mk.inj (Option.some.inj he)
   obtain⟨h1,h2⟩:=ih hds
   refine⟨by simp[h1],fun i d' hi=>?_⟩
   cases i with
   |zero=>cases hi;exact⟨x,b1,rfl,hd,fun e=>by simp[e]⟩
   |succ i=>
    obtain⟨y,c',h3,h4,h5⟩:=h2 i d' qU
    exact⟨y,c',by simpa using h3,h4,fun e=>by simp[h5 e]⟩
  ·cases he
theorem vM (r:Rep C st ok h a w) {v:Value} (hx:RdV w ok h x v): ∀{y:D} {b:Bool},asD st x=some (y,b)→RdD w (if b then dU ok h st else ok) y v:=by
 have up: ∀{c b:Bool} {d:D} {v:Value},(c=true→b=true)→RdD w (if c then dU ok h st else ok) d v→RdD w (if b then dU ok h st else ok) d v:=fun{c b d v} hcb hd=>hd.mono (fun _ _=>rfl) fun k hk=>by
  cases c<;>cases b<;>simp_all[dU]
 induction hx with
 |fS cs vs g hn hg _ ih=>
  intro y b he
  simp only[asD]at he
  obtain⟨⟨ds,c⟩,h1,h2⟩:=Option.map_eq_some_iff.1 he
  obtain⟨rfl,rfl⟩:=Prod.mk.inj h2
  obtain⟨h3,h4⟩:=tJ h1
  refine .agg ds vs g qD (fun i hi=>hg i qD) fun i d hd=>?_
  obtain⟨x,c',h5,h6,h7⟩:=h4 i d hd
  exact up h7 (ih i x h5 h6)
 |gG cs vs g hn hg _ ih=>
  intro y b he
  simp only[asD]at he
  obtain⟨⟨ds,c⟩,h1,h2⟩:=Option.map_eq_some_iff.1 he
  obtain⟨rfl,rfl⟩:=Prod.mk.inj h2
  obtain⟨h3,h4⟩:=tJ h1
  refine .tup ds vs g qD (fun i hi=>hg i qD) fun i d hd=>?_
  obtain⟨x,c',h5,h6,h7⟩:=h4 i d hd
  exact up h7 (ih i x h5 h6)
 |eR fn cs vs g hn hg _ ih=>
  intro y b he
  simp only[asD]at he
  obtain⟨⟨ds,c⟩,h1,h2⟩:=Option.map_eq_some_iff.1 he
  obtain⟨rfl,rfl⟩:=Prod.mk.inj h2
  obtain⟨h3,h4⟩:=tJ h1
  refine .clo fn ds vs g qD (fun i hi=>hg i qD) fun i d hd=>?_
  obtain⟨x,c',h5,h6,h7⟩:=h4 i d hd
  exact up h7 (ih i x h5 h6)
 |d z v hz=>exact fun{y b} he=>nG r (by simpa only[asD]using he) (.d z v hz)
 |os id n hc=>exact fun{y b} he=>nG r (by simpa only[asD]using he) (.os id n hc)
 |bp id off b hb=>exact fun{y b'} he=>nG r (by simpa only[asD]using he) (.bp id off b hb)
 |el=>intro y b he;simp[asD]at he
 |ot=>intro y b he;simp[asD]at he
 |mp=>intro y b he;simp[asD]at he
 |any=>intro y b he;simp[asD]at he
 |when=>intro y b he;simp[asD]at he
def cF:Option V→Option (FuncId×List V)
 |some (.d (.lit (.func (.func f) first cs)))=>bif first.isEmpty&&cs.isEmpty then some (f,[])else none
 |some (.d (.clo (.func f) caps))=>some (f,caps.map V.d)
 |some (.eR (.func f) caps)=>some (f,caps)
 |_=>none
def evL (g:Bool) (st:St):List Operand→Option (List V)
 |[]=>some []
 |x::r=>match ev g st x,evL g st r with
  |some v,some vs=>some (v::vs)
  |_,_=>none
theorem B8 {g:Bool} (hg:g=true) (r:Rep C st ok h a w): ∀{l:List Operand} {xs:List V},evL g st l=some xs→xs.length=l.length∧ ∀(i:Nat) (x:V),xs[i]?=some x→ ∃y,l[i]?=some y∧RdV w ok h x (a.eval y)
 |[],xs,he=>by cases he;exact⟨rfl,fun i x hi=>by simp at hi⟩
 |z::l,xs,he=>by
  simp only[evL]at he
  split at he
  ·rename_i v vs hv hvs
   cases he
   obtain⟨h1,h2⟩:=B8 hg r hvs
   refine⟨by simp[h1],fun i x hi=>?_⟩
   cases i with
   |zero=>cases hi;exact⟨z,rfl,aT hg r hv⟩
   |succ i=>simpa using h2 i x qU
  ·cases he
theorem Bz {y:V} {f:FuncId} {caps:List V} {v:Value} (he:cF (some y)=some (f,caps)) (hy:RdV w ok h y v):
 ∃cs:Array Value,v= .func (.func f) #[] cs∧cs.size=caps.length∧ ∀(i:Nat) (x:V),caps[i]?=some x→ ∃u,cs[i]?=some u∧RdV w ok h x u:=by
 unfold cF at he
 split at he
 ·rename_i f' first cs hz
  cases hb:(first.isEmpty&&cs.isEmpty)with
  |false=>simp[hb]at he
  |true=>
   rw[hb]at he
   obtain⟨rfl,rfl⟩:=Prod.mk.inj (Option.some.inj he)
   cases hz
   simp only[Bool.and_eq_true,Array.isEmpty_iff]at hb
   obtain⟨rfl,rfl⟩:=hb
   exact⟨#[],aX hy,rfl,fun i x hi=>by simp at hi⟩
 ·rename_i f' cs hz
  obtain⟨rfl,rfl⟩:=Prod.mk.inj (Option.some.inj he)
  cases hz
  cases hy with
  |d _ _ hx=>cases hx with
   |clo _ _ vs g hn hg hd=>
    refine⟨vs,rfl,QK,fun i x hi=>?_⟩
    rw[List.getElem?_map]at hi
    obtain⟨d,h1,h2⟩:=Option.map_eq_some_iff.1 hi
    subst h2
    exact⟨g i,hg i (List.getElem?_eq_some_iff.1 h1).1,.d _ _ (hd i d h1)⟩
 ·rename_i f' cs hz
  obtain⟨rfl,rfl⟩:=Prod.mk.inj (Option.some.inj he)
  cases hz
  cases hy with
  |eR _ _ vs g hn hg hd=>exact⟨vs,rfl,hn,fun i x hi=>⟨g i,hg i (List.getElem?_eq_some_iff.1 hi).1,hd i x hi⟩⟩
 ·cases he
theorem fM {g:Bool} (hg:g=true) (r:Rep C st ok h a w) {y:V} {f:FuncId} {caps xs:List V} {v:Value} {l:List Operand} (he:cF (some y)=some (f,caps)) (hy:RdV w ok h y v) (hl:evL g st l=some xs):
 ∃cs:Array Value,v= .func (.func f) #[] cs∧((l.toArray.map a.eval)++cs).size=(xs++caps).length∧ ∀(i:Nat) (x:V),(xs++caps)[i]?=some x→ ∃u,((l.toArray.map a.eval)++cs)[i]?=some u∧RdV w ok h x u:=by
 obtain⟨cs,h1,h2,h3⟩:=Bz he hy
 obtain⟨h4,h5⟩:=B8 hg r hl
 refine⟨cs,h1,by simp[h2,h4],fun i x hi=>?_⟩
 by_cases hlt:i<xs.length
 ·rw[List.getElem?_append_left hlt]at hi
  obtain⟨z,h6,h7⟩:=h5 i x hi
  refine⟨a.eval z,?_,h7⟩
  rw[Array.getElem?_append_left qH]
  simp[h6]
 ·rw[List.getElem?_append_right qD]at hi
  obtain⟨u,h6,h7⟩:=h3 _ x hi
  refine⟨u,?_,h7⟩
  rw[Array.getElem?_append_right qH]
  simpa[h4]using h6
def W8 (st:St) (xs caps:Option (List V)):Option (List D×Bool):=match xs,caps with
 |some xs,some cs=>iY st (xs++cs)
 |_,_=>none
theorem oY {P:Program} {f:FuncId} (hf:iJ P f=true) {x:Operand} {args:Array Operand} {ts:Array TypeId} (ho:o.op= .call {callee:= .value x,args:=args,argTypes:=ts}) {cs:Array Value}
 (hx:a.eval x= .func (.func f) #[] cs) (w:World):(execOp a.eval o).run P w= .ok (.enter f (args.map a.eval++cs)) w:=by
 unfold iJ at hf
 split at hf
 ·rename_i fn hfn
  simp only[Bool.and_eq_true,Bool.not_eq_true']at hf
  have hb: ¬fn.body=none:=fun e=>by simp[e]at hf
  have hn: ¬fn.name= "runtime.NumGoroutine" :=by simpa using hf.1
  simp[execOp,ho,resolve,hx,Deferred.ofValue,invoke,callFunc,hfn,hn,hb]
 ·cases hf
theorem yX (r:Rep C st ok h a w) {xs:List V} {ds:List D} {b:Bool} (he:iY st xs=some (ds,b)) {vs:Array Value} (hs:vs.size=xs.length) (hv: ∀(i:Nat) (x:V),xs[i]?=some x→ ∃u,vs[i]?=some u∧RdV w ok h x u):
 kS w (if b then dU ok h st else ok) ds vs:=by
 obtain⟨h1,h2⟩:=tJ he
 refine⟨qD,fun i d hd=>?_⟩
 obtain⟨x,c,h3,h4,h5⟩:=h2 i d hd
 obtain⟨u,h6,h7⟩:=hv i x h3
 refine⟨u,h6,(vM r h7 h4).mono (fun _ _=>rfl) fun k hk=>?_⟩
 cases c<;>cases b<;>simp_all[dU]
theorem KF {ops:Array Oper} {rest:List Oper} {K:St→Prop} {x:Operand} {f:FuncId} {args:Array Operand} {ts:Array TypeId} {y:V} {xs caps:List V} {ds:List D} {b g:Bool} {res:D} (hc:cS C)
 (hw:gE ops o st=some g) (ho:o.op= .call {callee:= .value x,args:=args,argTypes:=ts}) (hy:ev g st x=some y) (hx:cF (some y)=some (f,caps)) (hl:evL g st args.toList=some xs) (ha:iY st (xs++caps)=some (ds,b))
 (hf:g=true→aJ C.P f ds res) (hb:b=false∨flat res=true) (hd:cV C.nt o.dst=true) (hk:cC C ops rest (st.put o.dst (gI o g (.d res))) K):cC C ops (o::rest) st K:=by
 intro a w ⟨ok,h,r⟩ Q hQ
 refine wpList_step fun K' hK=>?_
 rw[bV r hw]
 by_cases hg:g=true
 rotate_left
 ·rw[if_neg hg]
  exact hK _ _ (hk _ _ ⟨ok,h,r.put (bG hd) (fF hw QJ)⟩ Q hQ)
 rw[if_pos hg]
 replace hf:=hf hg
 unfold Oper.wp
 obtain⟨cs,h1,h2,h3⟩:=fM hg r hx (aT hg r hy) hl
 rw[Array.toArray_toList]at h2 h3
 rw[oY hf.1 ho h1,Oper.upon_enter]
 refine(hf.2 (if b then dU ok h st else ok) w _ (fun k hk=>?_) (r.mem.std hc) (yX r ha h2 h3)).mono fun e w' ⟨v,he,hbl,hr⟩=>?_
 ·split at hk
  ·rcases hk with hk|⟨id,o1,h3,h4⟩
   ·exact(r.mem.okb k hk).1
   ·exact(r.mem.blk id o1 k h3 h4).1
  ·exact(r.mem.okb k hk).1
 ·subst he
  refine hK _ _ (hk _ _ ⟨fresh ok w w',h,?_⟩ Q hQ)
  have hr':RdD w' (fresh ok w w') res v:=by
   rcases hb with hb|hb
   ·subst hb;exact hr
   ·exact hr.flat (pW hb)
  have hmem:=r.mem.below (ok':=fresh ok w w') hbl (fun b hb=> .inl hb) (fun b hb=>hb) hc.lt
  have r':Rep C st (fresh ok w w') h a w':=⟨hmem,r.defers,r.nt,r.pin,fun i y hy=>by
   obtain⟨h5,u,h6,h7⟩:=r.slot i y hy
   exact⟨h5,u,h6,h7.mono (fun b hb=>hbl.block b (r.mem.okb b hb).1) fun b hb=> .inl hb⟩⟩
  exact r'.put (bG hd) (fW hg (.d _ _ hr'))
def ewp (C:Ctx) (c:Code) (Q:Exit→St→Prop) (st:St):Prop:=
 ∀a w,kZ C st a w→c.wp C.P (fun e a' w'=> ∃st',Q e st'∧kZ C st' a' w') a w
def mG (next:St→Prop) (Q:Exit→St→Prop):Exit→St→Prop
 | .normal,st=>next st
 |e,st=>Q e st
def iZ (id:Nat) (Q:Exit→St→Prop):Exit→St→Prop
 | .exit j,st=>if j=id then Q .normal st else Q (.exit j) st
 |e,st=>Q e st
variable {Q:Exit→St→Prop}
theorem eX {next:St→Prop} (hn:next st):mG next Q .normal st:=hn
theorem jA {next:St→Prop} (hn:Q .ret st):mG next Q .ret st:=hn
theorem gW {next:St→Prop} {j:Nat} (hn:Q (.exit j) st):mG next Q (.exit j) st:=hn
theorem dZ {id:Nat} (hn:Q .normal st):iZ id Q .normal st:=hn
theorem gX {id:Nat} (hn:Q .ret st):iZ id Q .ret st:=hn
theorem eU {id:Nat} (hn:Q .normal st):iZ id Q (.exit id) st:=by simp only[iZ,if_pos];exact hn
theorem dV {id j:Nat} (hj:j≠id) (hn:Q (.exit j) st):iZ id Q (.exit j) st:=by simp only[iZ,if_neg hj];exact hn
def oZ (Q:Exit→St→Prop):Exit→St→Prop
 | .goto _,_=>False
 |e,st=>Q e st
theorem eA (hn:Q .normal st):oZ Q .normal st:=hn
theorem gY (hn:Q .ret st):oZ Q .ret st:=hn
theorem fN {j:Nat} (hn:Q (.exit j) st):oZ Q (.exit j) st:=hn
theorem iE {c:Code} (hx:ewp C c (oZ Q) st):ewp C (.scope c) Q st:=by
 intro a w r
 refine wp_scope_straight (wp_mono (hx a w r) ?_)
 rintro e a' w' ⟨st',hq,r'⟩
 cases e with
 |goto l=>exact hq.elim
 |_=>exact⟨st',hq,r'⟩
theorem lJ {x y:Code} (hx:ewp C x (mG (ewp C y Q) Q) st):ewp C (.seq x y) Q st:=by
 intro a w r
 refine wp_seq (wp_mono (hx a w r) ?_)
 rintro e a' w' ⟨st',hq,r'⟩
 cases e with
 |normal=>exact hq a' w' r'
 |_=>exact⟨st',hq,r'⟩
theorem jO (hq:Q .normal st):ewp C .skip Q st:=fun _ _ r=>wp_skip ⟨st,hq,r⟩
theorem iF {l:Nat} (hq:Q .normal st):ewp C (.label l) Q st:=fun _ _ r=>wp_label ⟨st,hq,r⟩
theorem jP {id:Nat} (hq:Q (.exit id) st):ewp C (.exit id) Q st:=fun _ _ r=>wp_exit ⟨st,hq,r⟩
theorem lK (hq:Q .ret st):ewp C .ret Q st:=fun _ _ r=>wp_ret ⟨st,hq,r⟩
theorem iG {id:Nat} {c:Code} (hx:ewp C c (iZ id Q) st):ewp C (.block id c) Q st:=by
 intro a w r
 refine wp_block (wp_mono (hx a w r) ?_)
 rintro e a' w' ⟨st',hq,r'⟩
 cases e with
 |exit j=>
  simp only[Exit.inBlock]
  simp only[iZ]at hq
  split
  ·rename_i hj;rw[if_pos hj]at hq;exact⟨st',hq,r'⟩
  ·rename_i hj;rw[if_neg hj]at hq;exact⟨st',hq,r'⟩
 |_=>exact⟨st',hq,r'⟩
theorem Mw {c:Operand} {x y:Code} {t:Bool} (hc:ev true st c=some (.d (.lit (.bool t)))) (ht:t=true→ewp C x Q st) (hf:t=false→ewp C y Q st):ewp C (.cond c x y) Q st:=by
 intro a w r
 have r0:=r
 obtain⟨ok,h,r'⟩:=r0
 exact wp_cond_split (aX (aT rfl r' hc)) (fun e=>ht e a w r) (fun e=>hf e a w r)
theorem zZ {id:Nat} {l:List Oper} (hl:cC C l.toArray l st fun st'=>Q .normal st'):ewp C (.region id l.toArray false) Q st:=
 fun a w r=>wp_region_lit (hl a w r _ fun _ _ st' hq r'=>⟨st',hq,r'⟩)
def Le (C:Ctx) (st' st:St):Prop:= ∀a w,kZ C st a w→kZ C st' a w
theorem Le.refl (C:Ctx) (st:St):Le C st st:=fun _ _ r=>r
theorem Le.O0 (hs: ∀i x,look i st'.aO=some x→look i st.aO=some x) (ho: ∀i x,look i st'.aD=some x→look i st.aD=some x):Le C st' st:=by
 rintro a w ⟨ok,h,r⟩
 refine⟨ok,h,⟨r.mem.os,r.mem.tape,r.mem.output,r.mem.size,r.mem.block,r.mem.okb,fun i x hx=>r.mem.obj i x (ho i x hx),fun i x b hx=>r.mem.blk i x b (ho i x hx),fun i j x y b hx hy=>r.mem.apart i j x y b (ho i x hx) (ho j y hy)⟩,r.defers,r.nt,r.pin,fun i x hx=>r.slot i x (hs i x hx)⟩
theorem Le.trans {s1 s2 s3:St} (h1:Le C s1 s2) (h2:Le C s2 s3):Le C s1 s3:=fun a w r=>h1 a w (h2 a w r)
def dB {α:Type} (l:List (Nat×α)):List Nat→Option (List (Nat×α))
 |[]=>some []
 |i::r=>match look i l,dB l r with
  |some x,some s=>some ((i,x)::s)
  |_,_=>none
theorem jB {α:Type} {l:List (Nat×α)}: ∀{is:List Nat} {s:List (Nat×α)},dB l is=some s→ ∀i x,look i s=some x→look i l=some x
 |[],s,hs,i,x,hx=>by cases hs;cases hx
 |j::r,s,hs,i,x,hx=>by
  simp only[dB]at hs
  split at hs
  ·rename_i y s' h1 h2
   cases hs
   simp only[look]at hx
   split at hx
   ·rename_i e
    subst e;cases hx;exact h1
   ·exact jB h2 i x hx
  ·cases hs
theorem Le.keep (is ids:List Nat) {sl:List (Nat×V)} {os:List (Nat×O)} (h1:dB st.aO is=some sl) (h2:dB st.aD ids=some os):Le C ⟨sl,os⟩ st:=
 Le.O0 (fun i x hx=>jB h1 i x hx) (fun i x hx=>jB h2 i x hx)
def iL:List (Nat×Option Nat×Nat×Nat×List D)→St→Option St
 |[],st=>some st
 |(s,none,id,e,z)::r,st=>match C5 s id e z st with
  |some st1=>iL r st1
  |none=>none
 |(b,some k,id,e,z)::r,st=>match C6 b k id e z st with
  |some st1=>iL r st1
  |none=>none
theorem Le.iL: ∀{l:List (Nat×Option Nat×Nat×Nat×List D)} {st st1:St},iL l st=some st1→Le C st1 st
 |[],st,st1,he=>by cases he;exact Le.refl C st
 |(s,none,id,e,sz)::r,st,st1,he=>by
  simp only[Lw.iL]at he
  split at he
  ·rename_i st2 hb
   refine(Le.iL he).trans ?_
   rintro a w ⟨ok,h,rr⟩
   obtain⟨h',r'⟩:=C7 hb rr
   exact⟨ok,h',r'⟩
  ·cases he
 |(b,some k,id,e,sz)::r,st,st1,he=>by
  simp only[Lw.iL]at he
  split at he
  ·rename_i st2 hb
   refine(Le.iL he).trans ?_
   rintro a w ⟨ok,h,rr⟩
   obtain⟨h',r'⟩:=C8 hb rr
   exact⟨ok,h',r'⟩
  ·cases he
theorem bA {c:Code} (hl:Le C st' st) (hx:ewp C c Q st'):ewp C c Q st:=fun a w r=>hx a w (hl a w r)
theorem aN {α:Type} (S:α→St) (I:α→Prop) (μ:α→Nat) (x0:α) {body:Code} (h0:I x0) (hs:Le C (S x0) st)
 (round: ∀x,I x→ewp C body (mG (fun st'=> ∃y,I y∧μ y<μ x∧Le C (S y) st') Q) (S x)):ewp C (.loop body) Q st:=by
 intro a w r
 refine wp_loop_ghost (fun n a w=> ∃x,I x∧μ x=n∧kZ C (S x) a w) (μ x0) ⟨x0,h0,rfl,hs a w r⟩ ?_
 rintro n a w ⟨x,hI,rfl,r⟩
 refine wp_mono (round x hI a w r) ?_
 rintro e a' w' ⟨st',hq,r'⟩
 cases e with
 |normal=>
  obtain⟨y,h1,h2,h3⟩:=hq
  exact⟨μ y,h2,y,h1,rfl,h3 a' w' r'⟩
 |_=>exact⟨st',hq,r'⟩
def Fam (w:World) (D:World→Prop):Prop:=(∀w',D w'→Below w.heap.size w w')∧ ∀w1 w2,D w1→Below w1.heap.size w1 w2→D w2
theorem vN (w:World):Fam w fun w'=>Below w.heap.size w w':=⟨fun _ h=>h,fun _ _ h k=>h.trans (k.mono h.size)⟩
def jQ (P:Program) (ops:Array Oper) (F:(World→Prop)→Prop) (Q:Act→Prop):List Oper→Act→Prop
 |[],a=>Q a
 |o::l,a=> ∃v,(∀D,F D→YieldsIn P ops D o v a)∧jQ P ops F Q l (a.put o.dst v)
theorem jQ.one {P:Program} {ops:Array Oper} {F:(World→Prop)→Prop} {Q:Act→Prop} {D:World→Prop} (hD:F D): ∀{l:List Oper} {a:Act},jQ P ops F Q l a→wpQuiet P ops D Q l a
 |[],_,h=>h
 |o::l,a,⟨v,hv,h⟩=>by
  unfold wpQuiet
  rcases hv D hD with⟨hw,hy⟩|⟨hw,rfl⟩
  ·rw[if_pos hw]
   exact⟨v,hy,jQ.one hD h⟩
  ·rw[if_neg (by simp[hw])]
   exact jQ.one hD h
def cL (C:Ctx) (ops:Array Oper) (l:List Oper) (st:St) (K:St→Prop):Prop:=
 ∀ok h a w,Rep C st ok h a w→ ∀Qa:Act→Prop,(∀a' st',K st'→Rep C st' ok h a' w→Qa a')→jQ C.P ops (Fam w) Qa l a
theorem eY {ops:Array Oper} {K:St→Prop} (hk:K st):cL C ops [] st K:=fun _ _ a _ r _ hQ=>hQ a st hk r
theorem KG {ops:Array Oper} {rest:List Oper} {K:St→Prop} {g:Bool} (hw:gE ops o st=some g) (he:ro C.P (fun g=>ev g st) g st.aD o.op=some (x,p)) (hp:g=true→p) (hd:cV C.nt o.dst=true) (hk:cL C ops rest (st.put o.dst (gI o g x)) K):cL C ops (o::rest) st K:=by
 intro ok h a w r Qa hQ
 by_cases hg:g=true
 ·obtain⟨v,h1,h2⟩:=mE r (fun g hg x y=>aT hg r) (hg▸he) (hp hg)
  refine⟨v,fun D hD=> .inl ⟨by rw[bV r hw,hg],fun w' hw'=>?_⟩,hk ok h _ w (r.put (bG hd) (fW hg h1)) Qa hQ⟩
  unfold Oper.quietAt
  rw[h2 w' (fun b hb=>(hD.1 _ hw').block b hb)]
  exact⟨rfl,rfl⟩
 ·have hg':g=false:=by simpa using hg
  exact⟨undef,fun D _=> .inr ⟨by rw[bV r hw,hg'],rfl⟩,hk ok h _ w (r.put (bG hd) (fF hw hg')) Qa hQ⟩
theorem ES {ops:Array Oper} {rest:List Oper} {K:St→Prop} (hw:gE ops o st=some false) (hd:cV C.nt o.dst=true) (hk:cL C ops rest (st.put o.dst .any) K):cL C ops (o::rest) st K:=by
 intro ok h a w r Qa hQ
 exact⟨undef,fun D _=> .inr ⟨by rw[bV r hw],rfl⟩,hk ok h _ w (r.put (bG hd) (.any _)) Qa hQ⟩
theorem Mx {d:D} (hf:Flat d): ∃v,∀(w:World) (ok:Nat→Prop) u,RdD w ok d u→u=v:=by
 induction hf with
 |lit v=>exact⟨v,fun w ok u hu=>by cases hu;rfl⟩
 |agg cs _ ih=>
  refine⟨.agg ((cs.map fun d=>Classical.epsilon fun v=> ∀(w:World) (ok:Nat→Prop) u,RdD w ok d u→u=v).toArray),fun w ok u hu=>?_⟩
  cases hu with
  |agg _ vs g hn hg hd=>
   congr 1
   apply Array.ext_getElem?
   intro i
   by_cases hi:i<cs.length
   ·have hci:cs[i]?=some cs[i]:=List.getElem?_eq_getElem hi
    have:=Classical.epsilon_spec (ih cs[i] (List.getElem_mem hi)) w ok (g i) (hd i _ hci)
    rw[hg i hi]
    simp[hi,←this]
   ·rw[Array.getElem?_eq_none qD,Array.getElem?_eq_none qH]
 |tup cs _ ih=>
  refine⟨.tuple ((cs.map fun d=>Classical.epsilon fun v=> ∀(w:World) (ok:Nat→Prop) u,RdD w ok d u→u=v).toArray),fun w ok u hu=>?_⟩
  cases hu with
  |tup _ vs g hn hg hd=>
   congr 1
   apply Array.ext_getElem?
   intro i
   by_cases hi:i<cs.length
   ·have hci:cs[i]?=some cs[i]:=List.getElem?_eq_getElem hi
    have:=Classical.epsilon_spec (ih cs[i] (List.getElem_mem hi)) w ok (g i) (hd i _ hci)
    rw[hg i hi]
    simp[hi,←this]
   ·rw[Array.getElem?_eq_none qD,Array.getElem?_eq_none qH]
theorem KH {P:Program} {f:FuncId} {vs:Array Value} {w:World} {R:Ending→World→Prop} (hc:Calls P f vs w R): ∃e w',R e w':=by
 obtain⟨e,w',_,hr,_⟩:=hc []
 exact⟨e,w',hr⟩
theorem ET {ops:Array Oper} {rest:List Oper} {K:St→Prop} {x:Operand} {f:FuncId} {args:Array Operand} {ts:Array TypeId} {y:V} {xs caps:List V} {ds:List D} {b g:Bool} {res:D}
 (hc:cS C) (hw:gE ops o st=some g) (ho:o.op= .call {callee:= .value x,args:=args,argTypes:=ts}) (hy:ev g st x=some y) (hx:cF (some y)=some (f,caps)) (hl:evL g st args.toList=some xs) (ha:iY st (xs++caps)=some (ds,b))
 (hf:g=true→aJ C.P f ds res) (hb:flat res=true) (hd:cV C.nt o.dst=true) (hk:cL C ops rest (st.put o.dst (gI o g (.d res))) K):cL C ops (o::rest) st K:=by
 intro ok h a w r Qa hQ
 by_cases hg:g=true
 rotate_left
 ·have hg':g=false:=by simpa using hg
  exact⟨undef,fun D _=> .inr ⟨by rw[bV r hw,hg'],rfl⟩,hk ok h _ w (r.put (bG hd) (fF hw hg')) Qa hQ⟩
 replace hf:=hf hg
 obtain⟨v,hv⟩:=Mx (pW hb)
 obtain⟨cs,h1,h2,h3⟩:=fM hg r hx (aT hg r hy) hl
 rw[Array.toArray_toList]at h2 h3
 have hargs:=yX r ha h2 h3
 have hcall: ∀w1,Below w.heap.size w w1→Calls C.P f (args.map a.eval++cs) w1 fun e w'=> ∃v,e= .returned v∧Below w1.heap.size w1 w'∧RdD w' (fresh (if b then dU ok h st else ok) w1 w') res v:=by
  intro w1 hw1
  have hlt: ∀k,(if b then dU ok h st else ok) k→k<w.heap.size:=fun k hk=>by
   split at hk
   ·rcases hk with hk|⟨id,o1,h3,h4⟩
    ·exact(r.mem.okb k hk).1
    ·exact(r.mem.blk id o1 k h3 h4).1
   ·exact(r.mem.okb k hk).1
  refine hf.2 _ w1 _ (fun k hk=>?_) ((r.mem.std hc).below hw1) ⟨hargs.1,fun i d hi=>?_⟩
  ·have:=hlt k hk
   have:=hw1.size
   omega
  ·obtain⟨u,h5,h6⟩:=hargs.2 i d hi
   exact⟨u,h5,h6.mono (fun b hb=>hw1.block b (hlt b hb)) fun _ hb=>hb⟩
 obtain⟨e0,w0',v0,rfl,hbl0,hr0⟩:=KH (hcall w (Below.refl _ _))
 have e1:v0=v:=hv _ _ _ hr0
 subst e1
 refine⟨v0,fun D hD=> .inl ⟨by rw[bV r hw,hg],fun w1 hw1=>?_⟩,hk ok h _ w (r.put (bG hd) (fW hg (.d _ _ (hr0.flat (pW hb))))) Qa hQ⟩
 unfold Oper.quietAt
 rw[oY hf.1 ho h1]
 refine⟨rfl,(hcall w1 (hD.1 _ hw1)).mono fun e w' ⟨u,he,hbl,hr⟩=>?_⟩
 subst he
 rw[hv _ _ _ hr]
 exact⟨rfl,hD.2 _ _ hw1 hbl⟩
theorem jR (hnt:nt=C.nt) {ops:Array Oper} {K:St→Prop}: ∀{l l':List Oper} {st st':St} {q p:Prop},Ends (iK C.P nt ops true l (.go st q)) st' p l'→p→cL C ops l' st' K→cL C ops l st K
 |[],l',st,st',q,p,he,hp,hk=>by
  obtain⟨rfl,rfl,rfl⟩:=he
  exact hk
 |o::rest,l',st,st',q,p,he,hp,hk=>by
  simp only[iK]at he
  rcases lI (P:=C.P) (nt:=nt) (ops:=ops) (quiet:=true) (o:=o) (st:=st) (q:=q)with⟨g,x,r,h1,h2,h3,e⟩|⟨hq,_⟩|⟨h1,h2,e⟩|e|e
  ·rw[e]at he
   exact KG h1 h2 (kF he hp).2 (hnt▸h3) (jR hnt he hp hk)
  ·cases hq
  ·rw[e]at he
   exact ES h1 (hnt▸h2) (jR hnt he hp hk)
  ·rw[e,pZ]at he
   obtain⟨rfl,rfl,rfl⟩:=he
   exact hk
  ·rw[e,tI]at he
   exact he.elim
theorem Rep.below (hc:cS C) (r:Rep C st ok h a w) (hb:Below w.heap.size w w'):Rep C st ok h a w':=
 ⟨r.mem.below hb (fun _ h=>h) (fun _ h=> .inl h) hc.lt,r.defers,r.nt,r.pin,fun i y hy=>by
   obtain⟨h5,u,h6,h7⟩:=r.slot i y hy
   exact⟨h5,u,h6,h7.mono (fun b hb'=>hb.block b (r.mem.okb b hb').1) fun b hb=>hb⟩⟩
theorem EU {id:Nat} {l:List Oper} (hc:cS C) (hm:C.P.follows .mixedOrders=true) (hB:Region.lexB .any l.toArray=true) (hl:cL C l.toArray l st fun st'=>Q .normal st'):ewp C (.region id l.toArray true) Q st:=by
 rintro a w ⟨ok,h,r⟩
 refine wp_region_quiet (C:=fun w'=>Below w.heap.size w w') hm hB ((Below.refl _ w).drew) ?_
 exact(hl ok h a w r _ fun a' st' hq r' w' hw'=>⟨st',hq,ok,h,r'.below hc hw'⟩).one (vN w)
def Db (P:Program) (st:St):ResultVar→Option (D×Bool)
 | .tmp t=>match look t st.aO with
   |some x=>asD st x
   |none=>none
 | .cell t ty=>match look t st.aO with
   |some (.bp id off)=>match look id st.aD with
    |some (.box _ cells)=>match w6 P ty (cells.drop off)with
     |some x=>asD st x
     |none=>none
    |_=>none
   |_=>none
def kT (P:Program) (st:St):List ResultVar→Option (List D)
 |[]=>some []
 |r::rs=>match Db P st r,kT P st rs with
  |some (d,_),some ds=>some (d::ds)
  |_,_=>none
def BA:List D→D
 |[d]=>d
 |ds=> .tup ds
def Leaves (C:Ctx) (rs:List ResultVar) (res:D):Exit→St→Prop
 | .ret,st| .normal,st=>(kT C.P st rs).map BA=some res
 |_,_=>False
theorem H0 {rs:List ResultVar} {res:D} (he:(kT C.P st rs).map BA=some res):Leaves C rs res .ret st:=he
def jC (tmps:Array Value):ResultVar→Sem Value
 | .tmp t=>pure (tmps.getD t undef)
 | .cell a t=>do loadVar t (←asAddr (tmps.getD a undef))
theorem Dc (r:Rep C st ok h a w) {rv:ResultVar} {d:D} {b:Bool} (he:Db C.P st rv=some (d,b)): ∃v,(jC a.tmps rv).run C.P w= .ok v w∧RdD w (dU ok h st) d v:=by
 have up: ∀{b:Bool} {d:D} {v:Value},RdD w (if b then dU ok h st else ok) d v→RdD w (dU ok h st) d v:=fun{b d v} hx=>hx.mono (fun _ _=>rfl) fun k hk=>by
  cases b
  ·exact .inl hk
  ·exact hk
 unfold Db at he
 split at he
 ·rename_i t
  split at he
  ·rename_i x hx
   obtain⟨_,v,h1,h2⟩:=r.slot t x hx
   exact⟨v,by simp[jC,Array.getD_eq_getD_getElem?,h1],up (vM r h2 he)⟩
  ·cases he
 ·rename_i t ty
  split at he
  ·rename_i id off hx
   split at he
   ·rename_i ty' cells hl
    split at he
    ·rename_i x hload
     obtain⟨_,v,h1,h2⟩:=r.slot t _ hx
     cases h2 with
     |bp _ _ bk hb=>
      obtain⟨b',cs,h3,h4,h5,h6⟩:=r.mem.obj id _ hl
      obtain rfl:b'=bk:=by rw[h3]at hb;exact Option.some.inj hb
      obtain⟨v,hr,hrun⟩:=jL (P:=C.P) (w:=w) (ok:=ok) (h:=h) (b:=b') (off:=off) (cells:=cells.drop off) (fun k x hk=>by
       rw[List.getElem?_drop]at hk
       obtain⟨v,h7,h8⟩:=h6 _ _ hk
       exact⟨v,by simpa[World.cell?,h4]using h7,h8⟩) hload
      refine⟨v,?_,up (vM r hr he)⟩
      have:=hrun w (fun _=>rfl)
      simpa[jC,Array.getD_eq_getD_getElem?,h1,asAddr,Instr.loadAt,Instr.sureAddr]using this
    ·cases he
   ·cases he
  ·cases he
theorem z8 (fn:Func) (tmps:Array Value):results fn tmps=(do let vs←fn.results.mapM (jC tmps);pure (if h:vs.size=1 then vs[0]else .tuple vs)):=rfl
theorem tK (r:Rep C st ok h a w): ∀{rs:List ResultVar} {ds:List D},kT C.P st rs=some ds→
 ∃vs:List Value,(rs.mapM (jC a.tmps)).run C.P w= .ok vs w∧vs.length=ds.length∧ ∀(i:Nat) (d:D),ds[i]?=some d→ ∃v,vs[i]?=some v∧RdD w (dU ok h st) d v
 |[],ds,he=>by cases he;exact⟨[],qE,rfl,fun i d hi=>by simp at hi⟩
 |rv::rs,ds,he=>by
  simp only[kT]at he
  split at he
  ·rename_i d b ds' hd hds
   cases he
   obtain⟨v,h1,h2⟩:=Dc r hd
   obtain⟨vs,h3,h4,h5⟩:=tK r hds
   refine⟨v::vs,by simp[List.mapM_cons,h1,h3],by simp[h4],fun i d' hi=>?_⟩
   cases i with
   |zero=>cases hi;exact⟨v,rfl,h2⟩
   |succ i=>simpa using h5 i d' qU
  ·cases he
def ctx (P:Program) (w:World) (ok:Nat→Prop) (nt:Nat):Ctx:=⟨P,w,ok,nt,fun _=>⟨none,0,0⟩,[]⟩
theorem Sx (P:Program) (w:World) (ok:Nat→Prop) {nt:Nat} (hn:nt≤50000) (hs:Std P w):cS (ctx P w ok nt):=⟨fun _ ⟨_,_,h,_⟩=>(by cases h),hn,fun _ _ h=>(by cases h),hs,fun _ ⟨_,_,h,_⟩=>(by cases h)⟩
def sF:Nat→List D→List (Nat×V)
 |_,[]=>[]
 |i,d::r=>(i,.d d)::sF (i+1) r
theorem xF: ∀{l:List D} {k i:Nat} {x:V},look i (sF k l)=some x→ ∃d,x= .d d∧k≤i∧l[i-k]?=some d
 |[],_,_,_,hx=>by cases hx
 |d::r,k,i,x,hx=>by
  simp only[sF,look]at hx
  split at hx
  ·rename_i e
   subst e;cases hx
   exact⟨d,rfl,Nat.le_refl _,qE⟩
  ·obtain⟨d',h1,h2,h3⟩:=xF hx
   refine⟨d',h1,qD,?_⟩
   obtain⟨j,rfl⟩: ∃j,i=k+1+j:=⟨i-(k+1),qD⟩
   rw[show k+1+j-k=j+1 by omega]
   rw[show k+1+j-(k+1)=j by omega]at h3
   simpa using h3
theorem O1 {P:Program} {f:FuncId} {fn:Func} {c:Code} {args:List D} {res:D} (hf:P.funcs[f]?=some fn) (hb:fn.body=some c) (hcall:iJ P f=true) (hn:args.length≤fn.ntmps) (hn5:fn.ntmps≤50000) (rs:List ResultVar) (hrs:fn.results=rs.toArray)
 (hbody: ∀C:Ctx,C.P=P→C.nt=fn.ntmps→cS C→ewp C c (Leaves C rs res) ⟨sF 0 args,[]⟩):aJ P f args res:=by
 refine⟨hcall,fun ok w vs hok hstd ⟨hsz,hvs⟩=>calls_of_wp hf hb (wp_mono (hbody (ctx P w ok fn.ntmps) rfl rfl (Sx _ _ _ hn5 hstd) _ _ ⟨ok,fun _=>⟨none,0,0⟩,?_⟩) ?_)⟩
 ·refine⟨⟨rfl,rfl,rfl,Nat.le_refl _,fun _ _ _=>rfl,fun k hk=>⟨hok k hk,fun⟨_,_,h,_⟩=>(by cases h),.inl hk⟩,(fun id o hl=>by cases hl),(fun id o b hl=>by cases hl),(fun id j o o' b hl=>by cases hl)⟩,rfl,by simp[ctx];omega,fun _ _=>rfl,fun i x hx=>?_⟩
  obtain⟨d,rfl,_,hd⟩:=xF hx
  obtain⟨v,h1,h2⟩:=hvs i d (by simpa using hd)
  have hlt:i<vs.size:=(Array.getElem?_eq_some_iff.1 h1).1
  exact⟨by simp[ctx];omega,v,by rw[Array.getElem?_append_left hlt];exact h1,.d _ _ h2⟩
 ·rintro e a' w' ⟨st',hq,ok',h',r⟩
  have fin:(kT P st' rs).map BA=some res→a'.defers=[]∧ ∃v,(results fn a'.tmps).run P w'= .ok v w'∧ ∃u,Ending.returned v= .returned u∧Below w.heap.size w w'∧RdD w' (fresh ok w w') res u:=by
   intro he
   obtain⟨ds,h1,h2⟩:=Option.map_eq_some_iff.1 he
   obtain⟨vs',h3,h4,h5⟩:=tK (C:=ctx P w ok fn.ntmps) r h1
   have hm:(fn.results.mapM (jC a'.tmps)).run P w'= .ok vs'.toArray w':=by
    rw[hrs]
    have h3':(rs.mapM (jC a'.tmps)).run P w'= .ok vs' w':=h3
    simp[List.mapM_toArray,h3']
   have hbl:Below w.heap.size w w':=⟨r.mem.os,r.mem.tape,r.mem.output,r.mem.size,fun k hk=>r.mem.block k hk (fun⟨_,_,h,_⟩=>by cases h)⟩
   have hup: ∀k,dU ok' h' st' k→fresh ok w w' k:=by
    intro k hk
    rcases hk with hk|⟨id,o,h6,h7⟩
    ·obtain⟨h8,_,h9⟩:=r.mem.okb k hk
     rcases h9 with h9|h9
     ·exact .inl h9
     ·exact .inr ⟨h9,h8⟩
    ·obtain⟨h8,_,h9⟩:=r.mem.blk id o k h6 h7
     rcases h9 with h9|h9
     ·exact .inr ⟨h9,h8⟩
     ·obtain⟨_,h10,_⟩:=h9
      cases h10
   refine⟨r.defers,?_⟩
   rw[z8]
   simp only[Sem.run_bind,hm,Result.andThen_ok,Sem.run_pure]
   refine⟨_,rfl,_,rfl,hbl,?_⟩
   subst h2
   match ds,h4,h5 with
   |[d],h4,h5=>
    obtain⟨v,h6,h7⟩:=h5 0 d rfl
    match vs',h4,h6 with
    |[u],_,h6=>
     cases h6
     exact h7.mono (fun _ _=>rfl) hup
   |[],h4,h5=>
    match vs',h4 with
    |[],_=>exact .tup [] _ (fun _=>undef) rfl (fun i hi=>by simp at hi) (fun i d hi=>by simp at hi)
   |d1::d2::ds,h4,h5=>
    have hne: ¬vs'.toArray.size=1:=by simp[h4]
    rw[dif_neg hne]
    refine .tup _ _ (fun i=>vs'.getD i undef) (by simp[h4]) (fun i hi=>?_) (fun i d hi=>?_)
    ·have:i<vs'.length:=by omega
     simp[this]
    ·obtain⟨v,h6,h7⟩:=h5 i d hi
     have:vs'.getD i undef=v:=by simp[List.getD,h6]
     rw[this]
     exact h7.mono (fun _ _=>rfl) hup
  cases e with
  |normal=>exact fin hq
  |ret=>exact fin hq
  |_=>exact hq.elim
end
end Go.Lw
