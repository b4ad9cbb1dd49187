/- A REGION THAT DRAWS ITS ORDER, whose head only reads (or calls) and whose tail is one chain of operations that may write. -/
import Derived.Test.YtdjfgcjlnfnfhaaGreatDoorLwSeal
import Derived.StillTail
set_option linter.unusedSimpArgs false
set_option linter.unusedVariables false
namespace Go.Lw
open Go.RowKit
def aA {α:Type} (x:Option α) (y:α):Prop:=x=some y
theorem aA.mk {α:Type} {y:α}:aA (some y) y:=rfl
structure bB (C:Ctx) (P:Program) (nt:Nat):Prop where
 prog:C.P=P
 nt:C.nt=nt
 ok:cS C
section
variable {C:Ctx} {P:Program} {nt:Nat} {st st':St} {p:Prop} {Q:Exit→St→Prop} {K:St→Prop} {o:Oper} {rest l l':List Oper} {ops:Array Oper} {id:Nat}
theorem dE (hc:bB C P nt) (he:Ends (iK P nt l.toArray false l (.go st True)) st' p []) (hp:p) (hk:Q .normal st'):ewp C (.region id l.toArray false) Q st:=by
 obtain⟨rfl,rfl,hok⟩:=hc
 exact zZ (kG hok rfl he hp (e9 hk))
theorem cH (hc:bB C P nt) (he:Ends (iK P nt l.toArray false l (.go st True)) st' p l') (hp:p) (hk:cC C l.toArray l' st' fun st'=>Q .normal st'):ewp C (.region id l.toArray false) Q st:=by
 obtain⟨rfl,rfl,hok⟩:=hc
 exact zZ (kG hok rfl he hp hk)
theorem fX (hc:bB C P nt) (he:Ends (iK P nt ops false l (.go st True)) st' p l') (_hlt:l'.length<l.length) (hp:p) (hk:cC C ops l' st' K):cC C ops l st K:=by
 obtain⟨rfl,rfl,hok⟩:=hc
 exact kG hok rfl he hp hk
theorem cP (hc:bB C P nt) {x:Operand} {f:FuncId} {args:Array Operand} {ts:Array TypeId} {d:Option Tmp} {ty:TypeId} {pos:String} {af:Array Edge} {gd:Option (Nat×Bool)} {y:V} {xs caps:List V} {ds:List D} {b g:Bool} {res:D}
 (hw:aA (gE ops {dst:=d,op:= .call {callee:= .value x,args:=args,argTypes:=ts},type:=ty,pos:=pos,after:=af,guard:=gd} st) g)
 (hy:aA (ev g st x) y) (hx:aA (cF (some y)) (f,caps)) (hl:aA (evL g st args.toList) xs) (ha:aA (iY st (xs++caps)) (ds,b)) (hf:g=true→aJ P f ds res) (hb:(!b||flat res)=true) (hd:cV nt d=true) (hk:cC C ops rest (st.put d (if gd.isNone then .d res else .when g (.d res))) K):
 cC C ops ({dst:=d,op:= .call {callee:= .value x,args:=args,argTypes:=ts},type:=ty,pos:=pos,after:=af,guard:=gd}::rest) st K:=by
 obtain⟨rfl,rfl,hok⟩:=hc
 exact KF hok hw rfl hy hx hl ha hf (by cases b<;>simp_all) hd hk
theorem jS (hc:bB C P nt) (hm:P.follows .mixedOrders=true) (hB:Region.lexB .any l.toArray=true) (he:Ends (iK P nt l.toArray true l (.go st True)) st' p []) (hp:p) (hk:Q .normal st'):ewp C (.region id l.toArray true) Q st:=by
 obtain⟨rfl,rfl,hok⟩:=hc
 exact EU hok hm hB (jR rfl he hp (eY hk))
theorem vQ (hc:bB C P nt) (hm:P.follows .mixedOrders=true) (hB:Region.lexB .any l.toArray=true) (he:Ends (iK P nt l.toArray true l (.go st True)) st' p l') (hp:p) (hk:cL C l.toArray l' st' fun st'=>Q .normal st'):ewp C (.region id l.toArray true) Q st:=by
 obtain⟨rfl,rfl,hok⟩:=hc
 exact EU hok hm hB (jR rfl he hp hk)
theorem dK (hc:bB C P nt) (he:Ends (iK P nt ops true l (.go st True)) st' p l') (_hlt:l'.length<l.length) (hp:p) (hk:cL C ops l' st' K):cL C ops l st K:=by
 obtain⟨rfl,rfl,hok⟩:=hc
 exact jR rfl he hp hk
theorem cW (hc:bB C P nt) {x:Operand} {f:FuncId} {args:Array Operand} {ts:Array TypeId} {d:Option Tmp} {ty:TypeId} {pos:String} {af:Array Edge} {gd:Option (Nat×Bool)} {y:V} {xs caps:List V} {ds:List D} {b g:Bool} {res:D}
 (hw:aA (gE ops {dst:=d,op:= .call {callee:= .value x,args:=args,argTypes:=ts},type:=ty,pos:=pos,after:=af,guard:=gd} st) g)
 (hy:aA (ev g st x) y) (hx:aA (cF (some y)) (f,caps)) (hl:aA (evL g st args.toList) xs) (ha:aA (iY st (xs++caps)) (ds,b)) (hf:g=true→aJ P f ds res) (hb:flat res=true) (hd:cV nt d=true) (hk:cL C ops rest (st.put d (if gd.isNone then .d res else .when g (.d res))) K):
 cL C ops ({dst:=d,op:= .call {callee:= .value x,args:=args,argTypes:=ts},type:=ty,pos:=pos,after:=af,guard:=gd}::rest) st K:=by
 obtain⟨rfl,rfl,hok⟩:=hc
 exact ET hok hw rfl hy hx hl ha hf hb hd hk
theorem aF (σ:List (Nat×Nat)) {f:FuncId} {cargs:List V} {cobjs cobjs':List (Nat×O)} {rs:V} (hf:bJ P f cargs cobjs rs cobjs') (hc:bB C P nt) {x:Operand} {args:Array Operand} {ts:Array TypeId} {d:Option Tmp} {ty:TypeId} {pos:String} {af:Array Edge} {gd:Option (Nat×Bool)} {y:V} {xs caps xc:List V} {ps ps2:List (Nat×O)} {s2:St} {r2:V}
 (hw:aA (gE ops {dst:=d,op:= .call {callee:= .value x,args:=args,argTypes:=ts},type:=ty,pos:=pos,after:=af,guard:=gd} st) true)
 (hy:aA (ev true st x) y) (hx:aA (cF (some y)) (f,caps)) (hl:aA (evL true st args.toList) xs) (hxc:aA (some (xs++caps)) xc) (hxs:rM σ cargs=xc) (hps:aA (some (eE σ cobjs)) ps) (hpk:aA (dB st.aD (ps.map (·.1))) ps2) (hu:ps=ps2) (hσ:Dd σ cobjs cobjs' rs=true) (hd:cV nt d=true)
 (h2:aA (some (jD σ cobjs' st)) s2) (h3:aA (some (gJ σ rs)) r2) (hk:cC C ops rest (s2.put d r2) K):
 cC C ops ({dst:=d,op:= .call {callee:= .value x,args:=args,argTypes:=ts},type:=ty,pos:=pos,after:=af,guard:=gd}::rest) st K:=by
 obtain⟨rfl,rfl,hok⟩:=hc
 cases h2;cases h3;cases hps;cases hxc
 subst hu
 refine H3 σ hok hw rfl hy hx hl hf hxs ?_ hσ hd hk
 rw[←show _=some (eE σ cobjs)from hpk]
 simp only[eE,List.map_map]
 rfl
theorem gZ {qq:Prop} (σ:List (Nat×Nat)) {f:FuncId} {cargs:List V} {cobjs cobjs':List (Nat×O)} {rs:V} (hf:qq→bJ P f cargs cobjs rs cobjs') (hc:bB C P nt) {x:Operand} {args:Array Operand} {ts:Array TypeId} {d:Option Tmp} {ty:TypeId} {pos:String} {af:Array Edge} {gd:Option (Nat×Bool)} {y:V} {xs caps xc:List V} {ps ps2:List (Nat×O)} {s2:St} {r2:V}
 (hw:aA (gE ops {dst:=d,op:= .call {callee:= .value x,args:=args,argTypes:=ts},type:=ty,pos:=pos,after:=af,guard:=gd} st) true)
 (hy:aA (ev true st x) y) (hx:aA (cF (some y)) (f,caps)) (hl:aA (evL true st args.toList) xs) (hxc:aA (some (xs++caps)) xc) (hxs:rM σ cargs=xc) (hps:aA (some (eE σ cobjs)) ps) (hpk:aA (dB st.aD (ps.map (·.1))) ps2) (hu:ps=ps2) (hσ:Dd σ cobjs cobjs' rs=true) (hd:cV nt d=true)
 (h2:aA (some (jD σ cobjs' st)) s2) (h3:aA (some (gJ σ rs)) r2) (hq:qq) (hk:cC C ops rest (s2.put d r2) K):
 cC C ops ({dst:=d,op:= .call {callee:= .value x,args:=args,argTypes:=ts},type:=ty,pos:=pos,after:=af,guard:=gd}::rest) st K:=
 aF σ (hf hq) hc hw hy hx hl hxc hxs hps hpk hu hσ hd h2 h3 hk
theorem E3 (hc:bB C P nt) {it:Operand} {d:Tmp} {id pos:Nat} {s:ByteArray} {ty':TypeId} {pos':String} {af:Array Edge} {gd:Option (Nat×Bool)} {ob:O} {s1 s2:St}
 (hw:aA (gE ops {dst:=some d,op:= .next it true,type:=ty',pos:=pos',after:=af,guard:=gd} st) true) (hy:aA (ev true st it) (.bp id 0)) (hl:aA (look id st.aD) ob) (ho:ob= .raw (.stringIter s pos)) (hd:cV nt (some d)=true)
 (e1:aA (some (St.mk (place d (.d (.tup [.lit (.bool true),.lit (.int .i64 pos),.lit (.int .i32 ((Utf8.decode s pos).1:Int))])) st.aO) (place id (.raw (.stringIter s (pos+(Utf8.decode s pos).2))) st.aD))) s1) (e2:aA (some (st.put (some d) (.d (.tup [.lit (.bool false)])))) s2)
 (h1:pos<s.size→cC C ops rest s1 K) (h2: ¬pos<s.size→cC C ops rest s2 K):
 cC C ops ({dst:=some d,op:= .next it true,type:=ty',pos:=pos',after:=af,guard:=gd}::rest) st K:=by
 obtain⟨rfl,rfl,hok⟩:=hc
 cases e1;cases e2;subst ho
 exact KE hw rfl rfl hy hl (by simpa[cV]using hd) h1 h2
theorem kH (hc:bB C P nt) {t ty:TypeId} {y:Operand} {n:Nat} {g:Nat→List D} {r0:TypeId×Nat} {d:Option Tmp} {ty':TypeId} {pos:String} {af:Array Edge} {gd:Option (Nat×Bool)}
 (hw:aA (gE ops {dst:=d,op:= .binOp .eql t y (.const (.slice none 0 0)) ty,type:=ty',pos:=pos,after:=af,guard:=gd} st) true) (ht:aA (bM P t) r0) (hy:aA (ev true st y) (.d (.sl n g))) (hd:cV nt d=true)
 (hk: ∀b:Bool,(b=true→n=0)→cC C ops rest (st.put d (.d (.lit (.bool b)))) K):cC C ops ({dst:=d,op:= .binOp .eql t y (.const (.slice none 0 0)) ty,type:=ty',pos:=pos,after:=af,guard:=gd}::rest) st K:=by
 obtain⟨rfl,rfl,hok⟩:=hc
 exact H4 hw rfl ht hy hd hk
theorem tN (id:Nat) (hc:bB C P nt) {st2:St} {q:Prop} {c:Code} (he:aA (xK id st) (st2,q)) (hp:q) (hk:ewp C c Q st2):ewp C c Q st:=by
 obtain⟨rfl,rfl,hok⟩:=hc
 exact bA (Jy hok he hp) hk
theorem Df (id:Nat) (hc:bB C P nt) {st2 s3:St} {q:Prop} (he:aA (xK id st) (st2,q)) (hp:q) (hk:Le C s3 st2):Le C s3 st:=by
 obtain⟨rfl,rfl,hok⟩:=hc
 exact hk.trans (Jy hok he hp)
theorem kI (bs:List (Nat×Option Nat×Nat×Nat×List D)) {st2 s3:St} (he:aA (iL bs st) st2) (hk:Le C s3 st2):Le C s3 st:=hk.trans (Le.iL he)
theorem aR {s3:St} (he:s3=st):Le C s3 st:=by subst he;exact Le.refl _ _
theorem aE {rs:List ResultVar} {res:V} {objs':List (Nat×O)} {xs:List V} {st1:St} (ids:List Nat) {os:List (Nat×O)} (hc:bB C P nt) (hle:Le C st1 st) (he:aA (j7 P st1 rs) xs) (ho:aA (dB st1.aD ids) os) (hr:Aa xs=res) (hos:os=objs'):nH C rs res objs' .ret st:=by
 obtain⟨rfl,rfl,hok⟩:=hc
 subst hos
 exact⟨st1,hle,⟨xs,he,hr⟩,fun i o hl=>jB ho i o hl⟩
theorem o7 {rs:List ResultVar} {res:V} {objs':List (Nat×O)} {xs:List V} {st1:St} (ids:List Nat) {os:List (Nat×O)} (hc:bB C P nt) (hle:Le C st1 st) (he:aA (j7 P st1 rs) xs) (ho:aA (dB st1.aD ids) os) (hr:Aa xs=res) (hos:os=objs'):nH C rs res objs' .normal st:=by
 obtain⟨rfl,rfl,hok⟩:=hc
 subst hos
 exact⟨st1,hle,⟨xs,he,hr⟩,fun i o hl=>jB ho i o hl⟩
theorem cY {f:FuncId} {fn:Func} {c:Code} {args:List V} {res:V} {aD objs':List (Nat×O)} (hf:P.funcs[f]?=some fn) (hb:fn.body=some c) (hcall:iJ P f=true) (hnt:fn.ntmps=nt) (rs:List ResultVar) (hrs:fn.results=rs.toArray) (hn:args.length≤nt∧nt≤50000∧aD.all (fun p=>decide (50000≤p.1))=true)
 (hbody: ∀C:Ctx,bB C P nt→ewp C c (nH C rs res objs') ⟨o5 0 args,aD⟩):bJ P f args aD res objs':=
 Mz hf hb hcall qD qD hn.2.2 rs hrs fun C h1 h2 h3=>hbody C ⟨h1,h2.trans hnt,h3⟩
theorem gK {c:Operand} {x y:Code} {t:Bool} (hc:aA (ev true st c) (.d (.lit (.bool t)))) (ht:t=true→ewp C x Q st) (hf:t=false→ewp C y Q st):ewp C (.cond c x y) Q st:=Mw hc ht hf
theorem aG (is ids:List Nat) {sl:List (Nat×V)} {os:List (Nat×O)} (h1:aA (dB st.aO is) sl) (h2:aA (dB st.aD ids) os):Le C ⟨sl,os⟩ st:=Le.keep is ids h1 h2
theorem cQ (bs:List (Nat×Option Nat×Nat×Nat×List D)) (is ids:List Nat) {st1:St} {sl:List (Nat×V)} {os:List (Nat×O)} (h0:aA (iL bs st) st1) (h1:aA (dB st1.aO is) sl) (h2:aA (dB st1.aD ids) os):Le C ⟨sl,os⟩ st:=(Le.keep is ids h1 h2).trans (Le.iL h0)
theorem aC (is ids:List Nat) {s2:St} {sl:List (Nat×V)} {os:List (Nat×O)} (h1:aA (dB st.aO is) sl) (h2:aA (dB st.aD ids) os) (he:s2=⟨sl,os⟩):Le C s2 st:=he▸Le.keep is ids h1 h2
theorem aW {f:FuncId} {fn:Func} {c:Code} {args:List D} {res:D} (hf:P.funcs[f]?=some fn) (hb:fn.body=some c) (hcall:iJ P f=true) (hnt:fn.ntmps=nt) (rs:List ResultVar) (hrs:fn.results=rs.toArray) (hn:args.length≤nt∧nt≤50000)
 (hbody: ∀C:Ctx,bB C P nt→ewp C c (Leaves C rs res) ⟨sF 0 args,[]⟩):aJ P f args res:=
 O1 hf hb hcall qD qD rs hrs fun C h1 h2 h3=>hbody C ⟨h1,h2.trans hnt,h3⟩
theorem p9 {rs:List ResultVar} {res:D} {ds:List D} (hc:bB C P nt) (he:aA (kT P st rs) ds) (hr:BA ds=res):Leaves C rs res .ret st:=by
 obtain⟨rfl,rfl,hok⟩:=hc
 exact H0 (by rw[show kT C.P st rs=some ds from he,←hr];rfl)
end
section
variable {C:Ctx} {P:Program} {nt:Nat} {st st':St} {p:Prop} {Q:Exit→St→Prop} {K:St→Prop} {o:Oper} {rest l l':List Oper} {ops:Array Oper} {id:Nat}
theorem Zr (hc:bB C P nt) (he:Ends (iK P nt l.toArray false l (.go st True)) st' p []:=by simp;exact Ends.go) (hp:p:=by first|exact True.intro|omega|assumption|(simp;done)|(simp;omega)|(simp at*;omega)) (hk:Q .normal st'):ewp C (.region id l.toArray false) Q st:=dE hc he hp hk
theorem Zd (hc:bB C P nt) (hm:P.follows .mixedOrders=true:=by kernel_rfl) (hB:Region.lexB .any l.toArray=true:=by kernel_rfl) (he:Ends (iK P nt l.toArray true l (.go st True)) st' p []:=by simp;exact Ends.go) (hp:p:=by first|exact True.intro|omega|assumption|(simp;done)|(simp;omega)|(simp at*;omega)) (hk:Q .normal st'):ewp C (.region id l.toArray true) Q st:=jS hc hm hB he hp hk
theorem Zw (hc:bB C P nt) {x:Operand} {f:FuncId} {args:Array Operand} {ts:Array TypeId} {d:Option Tmp} {ty:TypeId} {pos:String} {af:Array Edge} {gd:Option (Nat×Bool)} {y:V} {xs caps:List V} {ds:List D} {b g:Bool} {res:D}
 (hw:aA (gE ops {dst:=d,op:= .call {callee:= .value x,args:=args,argTypes:=ts},type:=ty,pos:=pos,after:=af,guard:=gd} st) g:=by simp;exact aA.mk)
 (hy:aA (ev g st x) y:=by simp;exact aA.mk) (hx:aA (cF (some y)) (f,caps):=by simp;exact aA.mk) (hl:aA (evL g st args.toList) xs:=by simp;exact aA.mk) (ha:aA (iY st (xs++caps)) (ds,b):=by simp;exact aA.mk) (hf:aJ P f ds res) (hb:(!b||flat res)=true:=by simp) (hd:cV nt d=true:=by simp) (hk:cC C ops rest (st.put d (if gd.isNone then .d res else .when g (.d res))) K):
 cC C ops ({dst:=d,op:= .call {callee:= .value x,args:=args,argTypes:=ts},type:=ty,pos:=pos,after:=af,guard:=gd}::rest) st K:=cP hc hw hy hx hl ha (fun _=>hf) hb hd hk
theorem Zq (hc:bB C P nt) {x:Operand} {f:FuncId} {args:Array Operand} {ts:Array TypeId} {d:Option Tmp} {ty:TypeId} {pos:String} {af:Array Edge} {gd:Option (Nat×Bool)} {y:V} {xs caps:List V} {ds:List D} {b g:Bool} {res:D}
 (hw:aA (gE ops {dst:=d,op:= .call {callee:= .value x,args:=args,argTypes:=ts},type:=ty,pos:=pos,after:=af,guard:=gd} st) g:=by simp;exact aA.mk)
 (hy:aA (ev g st x) y:=by simp;exact aA.mk) (hx:aA (cF (some y)) (f,caps):=by simp;exact aA.mk) (hl:aA (evL g st args.toList) xs:=by simp;exact aA.mk) (ha:aA (iY st (xs++caps)) (ds,b):=by simp;exact aA.mk) (hf:aJ P f ds res) (hb:flat res=true:=by simp) (hd:cV nt d=true:=by simp) (hk:cL C ops rest (st.put d (if gd.isNone then .d res else .when g (.d res))) K):
 cL C ops ({dst:=d,op:= .call {callee:= .value x,args:=args,argTypes:=ts},type:=ty,pos:=pos,after:=af,guard:=gd}::rest) st K:=cW hc hw hy hx hl ha (fun _=>hf) hb hd hk
theorem Zo (hc:bB C P nt) (he:Ends (iK P nt ops false l (.go st True)) st' p l':=by simp;first|exact Ends.go|exact Ends.halt) (hlt:l'.length<l.length:=by decide) (hp:p:=by first|exact True.intro|omega|assumption|(simp;done)|(simp;omega)|(simp at*;omega)) (hk:cC C ops l' st' K):cC C ops l st K:=fX hc he hlt hp hk
theorem Zu (hc:bB C P nt) (he:Ends (iK P nt ops true l (.go st True)) st' p l':=by simp;first|exact Ends.go|exact Ends.halt) (hlt:l'.length<l.length:=by decide) (hp:p:=by first|exact True.intro|omega|assumption|(simp;done)|(simp;omega)|(simp at*;omega)) (hk:cL C ops l' st' K):cL C ops l st K:=dK hc he hlt hp hk
theorem Ze (hc:bB C P nt) (he:Ends (iK P nt l.toArray false l (.go st True)) st' p l':=by simp;exact Ends.halt) (hp:p:=by first|exact True.intro|omega|assumption|(simp;done)|(simp;omega)|(simp at*;omega)) (hk:cC C l.toArray l' st' fun st'=>Q .normal st'):ewp C (.region id l.toArray false) Q st:=cH hc he hp hk
theorem Zf (hc:bB C P nt) (hm:P.follows .mixedOrders=true:=by kernel_rfl) (hB:Region.lexB .any l.toArray=true:=by kernel_rfl) (he:Ends (iK P nt l.toArray true l (.go st True)) st' p l':=by simp;exact Ends.halt) (hp:p:=by first|exact True.intro|omega|assumption|(simp;done)|(simp;omega)|(simp at*;omega)) (hk:cL C l.toArray l' st' fun st'=>Q .normal st'):ewp C (.region id l.toArray true) Q st:=vQ hc hm hB he hp hk
theorem Zl {rs:List ResultVar} {res:D} {ds:List D} (hc:bB C P nt) (he:aA (kT P st rs) ds:=by simp;exact aA.mk) (hr:BA ds=res):Leaves C rs res .ret st:=p9 hc he hr
theorem Ya {x y:Code} (h:ewp C x (mG (ewp C y Q) Q) st):ewp C (.seq x y) Q st:=lJ h
theorem Yb {c:Code} (h:ewp C c (oZ Q) st):ewp C (.scope c) Q st:=iE h
theorem Yc (h:Q .normal st):oZ Q .normal st:=h
theorem Yd (h:Q .ret st):oZ Q .ret st:=h
theorem Ye {j:Nat} (h:Q (.exit j) st):oZ Q (.exit j) st:=h
theorem Yf (h:Q .normal st):ewp C .skip Q st:=jO h
theorem Yg {c:Code} (h:ewp C c (iZ id Q) st):ewp C (.block id c) Q st:=iG h
theorem Yh (h:Q (.exit id) st):ewp C (.exit id) Q st:=jP h
theorem Yi {j:Nat} (h:Q .normal st):ewp C (.label j) Q st:=iF h
theorem Yj {next:St→Prop} (h:next st):mG next Q .normal st:=h
theorem Yk {next:St→Prop} (h:Q .ret st):mG next Q .ret st:=h
theorem Yl {next:St→Prop} {j:Nat} (h:Q (.exit j) st):mG next Q (.exit j) st:=h
theorem Ym (h:Q .normal st):iZ id Q .normal st:=h
theorem Yn (h:Q .ret st):iZ id Q .ret st:=h
theorem Yo (h:Q .normal st):iZ id Q (.exit id) st:=eU h
theorem Yp {j:Nat} (hj:j≠id:=by decide) (h:Q (.exit j) st):iZ id Q (.exit j) st:=dV hj h
theorem Yq (h:Q .ret st):ewp C .ret Q st:=lK h
theorem Yr (h:K st):cC C ops [] st K:=e9 h
theorem Ys (h:K st):cL C ops [] st K:=eY h
end
theorem bT {a b:Bool} (h:a=b):BA [D.lit (.bool a)]=D.lit (.bool b):=by rw[h];rfl
theorem Dg {sz m:Nat} {f:Nat→List D}:eW sz ((List.range m).map f)↔ ∀i,i<m→(f i).length=sz∧(f i).all (fun d=>jK (.d d))=true:=by
 simp[eW]
theorem H5 {α:Type} {sz:Nat} {l:List α} {f:α→List D}:eW sz (l.map f)↔ ∀x,x∈l→(f x).length=sz∧(f x).all (fun d=>jK (.d d))=true:=by
 simp[eW]
theorem E6 {sz:Nat} {x:List D} {l:List (List D)}:eW sz (x::l)↔(x.length=sz∧x.all (fun d=>jK (.d d))=true)∧eW sz l:=by
 simp[eW]
theorem H6 {sz:Nat}:eW sz []↔True:=by simp[eW]
theorem BD {sz:Nat} {l m:List (List D)}:eW sz (l++m)↔eW sz l∧eW sz m:=by
 simp only[eW,List.mem_append]
 exact⟨fun h=>⟨fun x hx=>h x (.inl hx),fun x hx=>h x (.inr hx)⟩,fun h x hx=>hx.elim (h.1 x) (h.2 x)⟩
theorem Dh {α β:Type} (l:List α) (f:α→β):List.take l.length (l.map f)=l.map f:=List.take_of_length_le qE
theorem BE {α β:Type} (l:List α) (f:α→β) (x:β):List.take (l.length+1) (l.map f++[x])=l.map f++[x]:=List.take_of_length_le qE
attribute [simp] Dh BE
attribute [simp] Dg H5 E6 H6 BD
attribute [simp] jK bH gJ rM vO ren fJ eE jD mI kU nI sG yY j7 B9 Aa o5 Ac Ad Ad.EZ okV okV.okL O3 okO yZ De y5 Ae MB xK nB Dd l6 l6.KJ Sy iL C5 C6 EM oX B4 mF iI iK HZ tF BW yV ED step1 stepG Jx Jw Mv Mu EQ Jv EQ.orX OX OW tD keyOf Key.kd unw gE gI ro ev look place cV HK dY r9 Jr OT CW yR lD CX lE yS yT tC Jt Js kP zH yU orR Ml Mm OU oQ r8 HJ Jq CV St.put bnd w6 w4 vF bK bU gH O.bU bH jK sD asD iY cF evL Db kT BA dB sF flat EC Value.oneCell'
theorem O4 (n:Int):inR .i64 n↔ -9223372036854775808≤n∧n≤9223372036854775807:=by simp[inR,IntKind.min,IntKind.max,IntKind.signed,IntKind.bits]
theorem Sz (n:Int):inR .u8 n↔0≤n∧n≤255:=by simp[inR,IntKind.min,IntKind.max,IntKind.signed,IntKind.bits]
theorem O5 (n:Int):inR .i32 n↔ -2147483648≤n∧n≤2147483647:=by simp[inR,IntKind.min,IntKind.max,IntKind.signed,IntKind.bits]
attribute [simp] O4 Sz O5
theorem E7 (a:Nat):((a:Int)-1).toNat=a-1:=by omega
theorem E8 (a:Nat):((a:Int)+1).toNat=a+1:=by omega
theorem E9 (a:Nat):((a:Int)-2).toNat=a-2:=by omega
theorem Fa (a:Nat):((a:Int)+2).toNat=a+2:=by omega
theorem Fb (a:Nat):((a:Int)-3).toNat=a-3:=by omega
theorem Fc (a:Nat):((a:Int)+3).toNat=a+3:=by omega
theorem Fe (a:Nat):((a:Int)-4).toNat=a-4:=by omega
theorem Ff (a:Nat):((a:Int)+4).toNat=a+4:=by omega
theorem Fg (a:Nat):((a:Int)-5).toNat=a-5:=by omega
theorem Fh (a:Nat):((a:Int)+5).toNat=a+5:=by omega
theorem Fj (a:Nat):((a:Int)-6).toNat=a-6:=by omega
theorem Fk (a:Nat):((a:Int)+6).toNat=a+6:=by omega
theorem Fm (a:Nat):((a:Int)-7).toNat=a-7:=by omega
theorem Fo (a:Nat):((a:Int)+7).toNat=a+7:=by omega
theorem Fp (a:Nat):((a:Int)-8).toNat=a-8:=by omega
theorem Fq (a:Nat):((a:Int)+8).toNat=a+8:=by omega
theorem Fs (a:Nat):((a:Int)-9).toNat=a-9:=by omega
theorem Ft (a:Nat):((a:Int)+9).toNat=a+9:=by omega
theorem H7 (a b:Nat):((a:Int)+(b:Int)).toNat=a+b:=by omega
theorem H8 (a b:Nat):((a:Int)-(b:Int)).toNat=a-b:=by omega
attribute [simp] E7 E8 E9 Fa Fb Fc Fe Ff Fg Fh Fj Fk Fm Fo Fp Fq Fs Ft H7 H8
@[simp] theorem O6 (l:List UInt8):(bs l).size=l.length:=rfl
@[simp] theorem V2 (l:List UInt8):(bs l).data.toList=l:=rfl
@[simp] theorem TK (l:List UInt8):(bs l).toList=l:=by rw[ByteArray.toList_eq];rfl
@[simp] theorem TL (l m:List UInt8):bs l++bs m=bs (l++m):=by
  apply ByteArray.ext
  rw[ByteArray.data_append]
  simp[bs]
@[simp] theorem SA (l:List UInt8) (i j:Nat):(bs l).extract i j=bs ((l.take j).drop i):=by
  apply ByteArray.ext
  rw[ByteArray.data_extract]
  apply Array.ext'
  rw[Array.toList_extract]
  simp[bs,List.extract,List.drop_take]
@[simp] theorem W9 (l:List UInt8):ByteArray.mk (List.toArray l)=bs l:=rfl
@[simp] theorem Um:ByteArray.empty=bs []:=rfl
@[simp] theorem TM (l:List UInt8) (i:Nat):zG (bs l) i=l[i]?.getD 0:=by simp[zG]
@[simp] theorem WB (l m:List UInt8):bs l=bs m↔l=m:=by
  constructor
  ·intro h;have:=congrArg (fun b:ByteArray=>b.data.toList) h;simpa using this
  ·intro h;rw[h]
@[simp] theorem OR (o:Option UInt8):(o.map aZ).getD [.lit (.int .u8 0)]=[.lit (.int .u8 ((o.getD 0).toNat:Int))]:=by cases o<;>rfl
@[simp] theorem R6 (b:UInt8):gR [.lit (.int .u8 (b.toNat:Int))]=b:=lG b
@[simp] theorem R7 (l:List UInt8):(l.map aZ).map gR=l:=by simp[Function.comp_def,lG]
@[simp] theorem TN (b:UInt8):isRow [.lit (.int .u8 (b.toNat:Int))]↔True:=by simp;exact⟨b,rfl⟩
attribute [simp] aZ
inductive Sim:D→D→Prop where
 |refl (d:D):Sim d d
 |sl (n:Nat) (f g:Nat→List D) (h: ∀i,i<n→f i=g i):Sim (.sl n f) (.sl n g)
theorem Sim.rd {w:World} {ok:Nat→Prop} {d e:D} {v:Value} (s:Sim d e) (h:RdD w ok d v):RdD w ok e v:=by
 cases s with
 |refl _=>exact h
 |sl n f g hs=>
  cases h with
  |sl _ _ A cap size b off q hc hm hA hl hg hd=>
   exact .sl n g A cap size b off q hc hm hA (fun i hi=>by rw[←hs i hi];exact hl i hi) hg (fun i k d hi hk=>hd i k d hi (by rw[hs i hi];exact hk))
inductive Fu:List D→List D→Prop where
 |nil:Fu [] []
 |cons {d e:D} {l m:List D} (h:Sim d e) (t:Fu l m):Fu (d::l) (e::m)
theorem Fu.length {l m:List D} (h:Fu l m):l.length=m.length:=by
 induction h with
 |nil=>rfl
 |cons _ _ ih=>simp[ih]
theorem Fu.rd {w:World} {ok:Nat→Prop} {l m:List D} (h:Fu l m): ∀(i:Nat) (e:D),m[i]?=some e→ ∃d,l[i]?=some d∧Sim d e:=by
 induction h with
 |nil=>intro i e hi;simp at hi
 |cons h _ ih=>
  intro i e hi
  cases i with
  |zero=>cases hi;exact⟨_,rfl,h⟩
  |succ i=>simpa using ih i e qU
theorem aJ.sim {P:Program} {f:FuncId} {l m:List D} {res:D} (s:Fu l m) (h:aJ P f m res):aJ P f l res:=
 ⟨h.1,fun ok w vs hok hs ha=>h.2 ok w vs hok hs ⟨ha.1.trans s.length,fun i e hi=>by
   obtain⟨d,h1,h2⟩:=s.rd (w:=w) (ok:=ok) i e hi
   obtain⟨v,h3,h4⟩:=ha.2 i d h1
   exact⟨v,h3,h2.rd h4⟩⟩⟩
theorem Sim.rows {α:Type} {e:α→List D} {dflt:α} {es:List (List D)} {z:List D} (l:List α) (h:es=l.map e):Sim (.sl l.length fun i=>es.getD i z) (.sl l.length fun i=>e (l.getD i dflt)):=by
 subst h
 exact .sl _ _ _ fun i hi=>by simp[List.getD,List.getElem?_map,List.getElem?_eq_getElem hi]
def o8 (d e:D):Prop:= ∀(w:World) (ok:Nat→Prop) (v:Value),RdD w ok d v→RdD w ok e v
theorem o8.refl (d:D):o8 d d:=fun _ _ _ h=>h
theorem o8.trans {a b c:D} (h:o8 a b) (k:o8 b c):o8 a c:=fun w ok v hv=>k w ok v (h w ok v hv)
theorem o8.sl {n:Nat} {f g:Nat→List D} (h: ∀i,i<n→f i=g i):o8 (.sl n f) (.sl n g):=fun _ _ _ hv=>(Sim.sl n f g h).rd hv
inductive lL:List D→List D→Prop where
 |nil:lL [] []
 |cons {d e:D} {l m:List D} (h:o8 d e) (t:lL l m):lL (d::l) (e::m)
theorem lL.length {l m:List D} (h:lL l m):l.length=m.length:=by
 induction h with
 |nil=>rfl
 |cons _ _ ih=>simp[ih]
theorem lL.get {l m:List D} (h:lL l m): ∀(i:Nat) (e:D),m[i]?=some e→ ∃d,l[i]?=some d∧o8 d e:=by
 induction h with
 |nil=>intro i e hi;simp at hi
 |cons h _ ih=>
  intro i e hi
  cases i with
  |zero=>cases hi;exact⟨_,rfl,h⟩
  |succ i=>simpa using ih i e qU
theorem lL.refl: ∀l:List D,lL l l
 |[]=> .nil
 |d::l=> .cons (o8.refl d) (lL.refl l)
theorem o8.tup {l m:List D} (h:lL l m):o8 (.tup l) (.tup m):=fun w ok v hv=>by
 cases hv with
 |tup _ vs g hn hg hd=>
  refine .tup m vs g (by rw[←h.length];exact hn) (fun i hi=>hg i (by rw[h.length];exact hi)) fun i e hi=>?_
  obtain⟨d,h1,h2⟩:=h.get i e hi
  exact h2 w ok _ (hd i d h1)
theorem o8.agg {l m:List D} (h:lL l m):o8 (.agg l) (.agg m):=fun w ok v hv=>by
 cases hv with
 |agg _ vs g hn hg hd=>
  refine .agg m vs g (by rw[←h.length];exact hn) (fun i hi=>hg i (by rw[h.length];exact hi)) fun i e hi=>?_
  obtain⟨d,h1,h2⟩:=h.get i e hi
  exact h2 w ok _ (hd i d h1)
theorem o8.rows {n:Nat} {f g:Nat→List D} (h: ∀i,i<n→lL (f i) (g i)):o8 (.sl n f) (.sl n g):=fun w ok v hv=>by
 cases hv with
 |sl _ _ A cap size b off k hc hm hA hl hg hd=>
  refine .sl n g A cap size b off k hc hm hA (fun i hi=>by rw[←(h i hi).length];exact hl i hi) hg fun i j e hi hj=>?_
  obtain⟨d,h1,h2⟩:=(h i hi).get j e hj
  exact h2 w ok _ (hd i j d hi h1)
theorem aJ.same {P:Program} {f:FuncId} {l m:List D} {res:D} (s:lL l m) (h:aJ P f m res):aJ P f l res:=
 ⟨h.1,fun ok w vs hk hs ha=>h.2 ok w vs hk hs ⟨by rw[ha.1,s.length],fun i e hi=>by
   obtain⟨d,h1,h2⟩:=s.get i e hi
   obtain⟨v,h3,h4⟩:=ha.2 i d h1
   exact⟨v,h3,h2 w ok v h4⟩⟩⟩
theorem rA {w:World} {ok:Nat→Prop} {XG:List Value} {vs:Array Value} (h:kS w ok (XG.map D.lit) vs):vs=XG.toArray:=by
 obtain⟨h1,h2⟩:=h
 apply Array.ext'
 simp only
 apply List.ext_getElem?
 intro i
 by_cases hi:i<XG.length
 ·obtain⟨v,h3,h4⟩:=h2 i (.lit XG[i]) (by simp[hi])
  cases h4
  rw[Array.getElem?_toList,h3]
  simp[hi]
 ·rw[Array.getElem?_toList,Array.getElem?_eq_none (by rw[h1];simp;omega),List.getElem?_eq_none qD]
theorem iA {P:Program} {f:FuncId} (XG:List Value) {v:Value} (hf:iJ P f=true) (h: ∀w,Std P w→Calls P f XG.toArray w fun e w'=>e= .returned v∧Below w.heap.size w w'):aJ P f (XG.map D.lit) (.lit v):=
 ⟨hf,fun ok w vs _ hs ha=>by
   rw[rA ha]
   exact(h w hs).mono fun e w' ⟨he,hb⟩=>⟨v,he,hb,.lit v⟩⟩
theorem dL {P:Program} {f:FuncId} (XG:List Value) {v:Value} (hf:iJ P f=true) (h: ∀w,Std P w→Calls P f XG.toArray w fun e w'=>e= .returned v∧w'=w):aJ P f (XG.map D.lit) (.lit v):=
 iA XG hf fun w hs=>(h w hs).mono fun e w' ⟨he,hw⟩=>⟨he,hw▸Below.refl _ _⟩
end Go.Lw
namespace Go.Lw
open Go Go.RowKit
section
variable {P:Program} {ops:Array Oper} {md:Region.Mode} {C:World→Prop}
def Fv (P:Program) (md:Region.Mode) (ops:Array Oper) (C:World→Prop) (n:Nat) (L:Array Bool→Act→Prop):Nat→Array Bool→Act→Prop
 |0,listed,a=>L listed a
 |f+1,listed,a=>Region.ready md ops listed≠[]∧ ∀i∈Region.ready md ops listed,i<n∧qOp P ops C i (Fv P md ops C n L f (listed.setIfInBounds i true)) a
theorem tO {n g:Nat} {L:Array Bool→Act→Prop} {Q':Exit→Act→World→Prop} (hL: ∀listed a w,C w→L listed a→wpAny P md ops Q' g listed a w):
 ∀(f:Nat) (listed:Array Bool) (a:Act) (w:World),C w→Fv P md ops C n L f listed a→wpAny P md ops Q' (f+g) listed a w
 |0,listed,a,w,hw,h=>by rw[Nat.zero_add];exact hL _ _ _ hw h
 |f+1,listed,a,w,hw,h=>by
  rw[show f+1+g=(f+g)+1 by omega]
  exact⟨fun h0=>absurd h0 h.1,fun i hi=>wpOp_of_qOp hw (fun a' w' hw' h'=>tO hL f _ a' w' hw' h') (h.2 i hi).2⟩
theorem Fw {n i:Nat} {oi:Oper} {v:Value} {L:Array Bool→Act→Prop} (hi:ops[i]?=some oi) (hsel: ∀(j:Nat) (o:Oper) cs b,ops[j]?=some o→o.op≠ .select cs b)
 (hs:Region.sinkB md ops n=true) (hc:Region.chainB md ops n=true) (hn:n<ops.size) (hin:i<n)
 (hdone: ∀listed a,L listed a→ ∀j∈Region.ready md ops listed,n≤j):
 ∀(f:Nat) (listed:Array Bool) (a:Act),HeadInv md ops n listed→
  (∀j oj,ops[j]?=some oj→j≠i→listed.getD j true=false→(∀e∈oj.after,Region.binds md e=true→e.on≠i)→oi.apart ops oj=true)→
  i∈Region.ready md ops listed→YieldsIn P ops C oi v a→
  Fv P md ops C n L f (listed.setIfInBounds i true) (a.put oi.dst v)→Fv P md ops C n L (f+1) listed a:=by
 intro f
 induction f with
 |zero=>
  intro listed a inv _ hr hy H
  have hun:=(mem_ready.1 hr).1
  refine⟨fun h=>QV,fun j hj=>?_⟩
  have hjn:j<n:=by
   rcases Nat.lt_or_ge j n with h|h
   ·exact h
   ·exact absurd hj (tail_waits hs hc hn inv _ i rfl hin hun j h)
  refine⟨hjn,?_⟩
  by_cases hji:j=i
  ·subst hji;exact hy.qOp hi H
  ·have:=hdone _ _ H j (ready_mono hj hji)
   omega
 |succ f ih=>
  intro listed a inv hfree hr hy H
  have hun:=(mem_ready.1 hr).1
  refine⟨fun h=>QV,fun j hj=>?_⟩
  have hjn:j<n:=by
   rcases Nat.lt_or_ge j n with h|h
   ·exact h
   ·exact absurd hj (tail_waits hs hc hn inv _ i rfl hin hun j h)
  refine⟨hjn,?_⟩
  by_cases hji:j=i
  ·subst hji;exact hy.qOp hi H
  ·have h1:=(H.2 j (ready_mono hj hji)).2
   obtain⟨hjun,oj,hoj,hall⟩:=mem_ready.1 hj
   have hnot: ∀e∈oj.after,Region.binds md e=true→e.on≠i:=fun e he hb heq=>by
    have h1:=hall e he hb
    rw[heq,getD_both hun]at h1
    cases h1
   have h2:=qOp_put hoj (hfree j oj hoj hji hjun hnot) (fun cs b=>hsel i oi cs b hi) (fun cs b=>hsel j oj cs b hoj) hy h1
   have hfree': ∀k ok,ops[k]?=some ok→k≠i→(listed.setIfInBounds j true).getD k true=false→
    (∀e∈ok.after,Region.binds md e=true→e.on≠i)→oi.apart ops ok=true:=fun k ok hk hki hun hno=>by
    refine hfree k ok hk hki ?_ hno
    by_cases hjk:j=k
    ·subst hjk;exact hjun
    ·rw[getD_set_ne true hjk]at hun;exact hun
   refine qOp_mono (fun a' h3=>ih (listed.setIfInBounds j true) a' (inv.set hj hjn) hfree' (ready_mono hr (Ne.symm hji)) h3.1 ?_) h2
   rw[Array.setIfInBounds_comm _ _ hji]
   exact h3.2
theorem Cb {n g:Nat} {Lq:Act→Prop} (hsel:Region.noSelect ops=true) (hs:Region.sinkB md ops n=true) (hc:Region.chainB md ops n=true) (hn:n<ops.size):
 ∀(l:List Oper) (k:Nat) (listed:Array Bool) (a:Act),(∀j,j<l.length→l[j]?=ops[k+j]?)→k+l.length=n→HeadInv md ops n listed→
 Region.lexHead md ops g l.length k listed=true→wpQuiet P ops C Lq l a→
 Fv P md ops C n (fun listed' a'=>Region.seqB md ops g n listed'=true∧Lq a') l.length listed a
 |[],k,listed,a,_,hk,_,hB,h=>by
  have:k=n:=by simpa using hk
  subst this
  exact⟨by simpa[Region.lexHead]using hB,h⟩
 |o::l,k,listed,a,hl,hk,inv,hB,h=>by
  have h0:ops[k]?=some o:=by simpa using(hl 0 qE).symm
  simp only[List.length_cons,Region.lexHead,Bool.and_eq_true]at hB
  obtain⟨⟨hr,hf⟩,hB'⟩:=hB
  have hkn:k<n:=by simp only[List.length_cons]at hk;omega
  have hr':k∈Region.ready md ops listed:=by simpa using hr
  have hst:qOp P ops C k (wpQuiet P ops C Lq l) a:=by unfold qOp;simp only[h0];exact h
  obtain⟨v,hy,hK⟩:=yieldsIn_of_qOp h0 hst
  exact Fw h0 (Region.noSelect_spec hsel) hs hc hn hkn (fun listed' a' hL=>seqB_ready hL.1) l.length listed a inv (Region.free_spec h0 hf) hr' hy
   (Cb hsel hs hc hn l (k+1) _ _ (fun j hj=>by have:=hl (j+1) qH;simpa[Nat.add_assoc,Nat.add_comm 1 j]using this) (by simp only[List.length_cons]at hk;omega) (inv.set hr' hkn) hB' hK)
theorem o9 {id:Nat} {Q:Exit→Act→World→Prop} {a:Act} {w:World} {l:List Oper} (n:Nat) (hm:P.follows .mixedOrders=true) (hB:Region.lexTailB .any l.toArray n=true) (hC:C {w with drawn:=w.drawn+1})
 (h:wpQuiet P l.toArray C (fun a'=> ∀w',C w'→wpList P l.toArray Q (l.drop n) a' w') (l.take n) a):(Code.region id l.toArray true).wp P Q a w:=by
 simp only[Region.lexTailB,Bool.and_eq_true,decide_eq_true_eq]at hB
 obtain⟨⟨⟨⟨hsel,hn⟩,hs⟩,hc⟩,hlex⟩:=hB
 have hn':n<l.length:=by simpa using hn
 have htl:(l.take n).length=n:=by simp;omega
 have hdl:(l.drop n).length=l.toArray.size-n:=by simp
 have inv0:HeadInv .any l.toArray n (Array.replicate l.toArray.size false):=
  ⟨qE,fun j oj _ hl=>(by rw[getD_replicate_false]at hl;cases hl),fun t _ ht=>getD_in (by simpa using ht) (getD_replicate_false _ _)⟩
 have H:=Cb (md:= .any) (g:=l.toArray.size-n) hsel hs hc hn (l.take n) 0 _ a (fun j hj=>by
  have hj':j<n:=by rw[htl]at hj;exact hj
  simp[hj']) (by simpa using htl) inv0 (by rw[htl];exact hlex) h
 refine wp_region_any hm ?_
 have:=tO (Q':=Q) (g:=l.toArray.size-n) (fun listed a' w' hw' hL=>by
  have:=wpAny_of_seq (md:= .any) (Q':=Q) (l.drop n) n listed a' w' (fun j=>by simp[List.getElem?_drop]) (by rw[hdl];exact hL.1) (hL.2 w' hw')
  rwa [hdl]at this) _ _ _ _ hC H
 rw[htl,show n+(l.toArray.size-n)=l.toArray.size by omega]at this
 exact this
end
section
variable {C:Ctx} {P:Program} {nt:Nat} {st:St} {Q:Exit→St→Prop}
theorem dC (n:Nat) {id:Nat} {l:List Oper} (hc:bB C P nt) (hm:P.follows .mixedOrders=true) (hB:Region.lexTailB .any l.toArray n=true)
 (hl:cL C l.toArray (l.take n) st fun st'=>cC C l.toArray (l.drop n) st' fun st''=>Q .normal st''):ewp C (.region id l.toArray true) Q st:=by
 obtain⟨rfl,rfl,hok⟩:=hc
 rintro a w ⟨ok,h,r⟩
 refine o9 (C:=fun w'=>Below w.heap.size w w') n hm hB ((Below.refl _ w).drew) ?_
 refine(hl ok h a w r _ fun a' st' hq r' w' hw'=>?_).one (vN w)
 exact hq a' w' ⟨ok,h,r'.below hok hw'⟩ _ fun a'' w'' st'' hk r''=>⟨st'',hk,r''⟩
end
mutual
def fO:V→Bool
 | .d x=>flat x
 | .bp .. | .el .. | .os .. | .ot .. | .mp .. | .any=>true
 | .fS cs| .gG cs| .eR _ cs=>Af cs
 | .when _ x=>fO x
def Af:List V→Bool
 |[]=>true
 |x::r=>fO x&&Af r
end
theorem sH {cs:List V} (hf:Af cs=true): ∀{i:Nat} {x:V},cs[i]?=some x→fO x=true:=by
 induction cs with
 |nil=>intro i x hx;simp at hx
 |cons y r ih=>
  simp only[Af,Bool.and_eq_true]at hf
  intro i x hx
  cases i with
  |zero=>cases hx;exact hf.1
  |succ i=>exact ih hf.2 (by simpa using hx)
theorem RdV.fO {w w':World} {ok ok':Nat→Prop} {h:Nat→Hd} {x:V} {v:Value} (hx:RdV w ok h x v) (hf:Lw.fO x=true):RdV w' ok' h x v:=by
 induction hx with
 |d x v hx=>exact .d x v (hx.flat (pW Q3))
 |any v=>exact .any v
 |bp id off b hb=>exact .bp id off b hb
 |el id i off b hb=>exact .el id i off b hb
 |os id n hc=>exact .os id n hc
 |ot id lo n hc=>exact .ot id lo n hc
 |mp id b hb=>exact .mp id b hb
 |fS cs vs g hn hg _ ih=>exact .fS cs vs g hn hg fun i x hx=>ih i x hx (sH Q3 hx)
 |gG cs vs g hn hg _ ih=>exact .gG cs vs g hn hg fun i x hx=>ih i x hx (sH Q3 hx)
 |eR fn cs vs g hn hg _ ih=>exact .eR fn cs vs g hn hg fun i x hx=>ih i x hx (sH Q3 hx)
 |when g x v _ hfl ih=>exact .when g x v (fun e=>ih e Q3) hfl
def lO (st:St):St:={aO:=st.aO.map fun p=>(p.1,bif fO p.2 then p.2 else .any),aD:=[]}
section
variable {C:Ctx} {P:Program} {nt:Nat} {st st':St} {ok:Nat→Prop} {h:Nat→Hd} {a:Act} {w:World} {o:Oper} {x:V} {p:Prop} {K:St→Prop} {Q:Exit→St→Prop} {ops:Array Oper} {listed:Array Bool} {fuel i:Nat}
theorem Ag (r:Rep C st ok h a w) (he:ro C.P (fun g=>ev g (lO st)) true [] o.op=some (x,p)) (hp:p) (hx:fO x=true): ∃v,RdV w ok h x v∧ ∀w',(execOp a.eval o).run C.P w'= .ok (.value v) w':=by
 let w1:World:={w with heap:= #[]}
 have r':Rep {C with w0:=w1} (lO st) (fun _=>False) h a w1:=by
  refine⟨⟨rfl,rfl,rfl,Nat.le_refl _,fun _ _ _=>rfl,(fun k hk=>hk.elim),(fun id o hl=>by simp[lO,look]at hl),(fun id o b hl=>by simp[lO,look]at hl),(fun id id' o o' b hl=>by simp[lO,look]at hl)⟩,r.defers,r.nt,r.pin,fun j y hy=>?_⟩
  simp only[lO]at hy
  rw[jM (f:=fun v=>bif fO v then v else V.any)]at hy
  obtain⟨z,h1,h2⟩:=Option.map_eq_some_iff.1 hy
  obtain⟨h3,v,h4,h5⟩:=r.slot j z h1
  refine⟨h3,v,h4,?_⟩
  subst h2
  cases hz:fO z with
  |true=>exact h5.fO hz
  |false=>exact .any v
 obtain⟨v,h1,h2⟩:=mE (C:={C with w0:=w1}) r' (fun g hg x y=>aT hg r') (st:=lO st) he hp
 exact⟨v,h1.fO hx,fun w'=>h2 w' fun b hb=>absurd hb (Nat.not_lt_zero _)⟩
def eD (C:Ctx) (ops:Array Oper) (fuel:Nat) (listed:Array Bool) (st:St) (K:St→Prop):Prop:=
 ∀a w,kZ C st a w→ ∀Q:Exit→Act→World→Prop,(∀a' w' st',K st'→kZ C st' a' w'→Q .normal a' w')→(∀c a w,¬Q (.panic c) a w)→wpAny C.P .any ops Q fuel listed a w
def mJ (C:Ctx) (ops:Array Oper) (i:Nat) (st:St) (K:St→Prop):Prop:=
 ∀a w,kZ C st a w→ ∀(Q:Exit→Act→World→Prop) (K':Act→World→Prop),(∀a' w' st',K st'→kZ C st' a' w'→K' a' w')→wpOp C.P ops Q i K' a w
theorem Cc (hr:Region.ready .any ops listed=[]) (hk:K st):eD C ops fuel listed st K:=fun a w r _ hQ _=>wpAny_done hr (hQ a w st hk r) fuel
theorem KM (hi:ops[i]?=some o) (hB:(Region.noSelect ops&&Region.free .any ops listed i&&(Region.ready .any ops listed).contains i)=true) (hg:o.guard=none)
 (he:ro C.P (fun g=>ev g (lO st)) true [] o.op=some (x,p)) (hp:p) (hx:fO x=true) (hd:cV C.nt o.dst=true) (hk:eD C ops fuel (listed.setIfInBounds i true) (st.put o.dst x) K):eD C ops (fuel+1) listed st K:=by
 intro a w ⟨ok,h,r⟩ Q hQ hn
 simp only[Bool.and_eq_true]at hB
 obtain⟨v,h1,h2⟩:=Ag r he hp hx
 exact wpAny_take (v:=v) hi hB.1.1 hB.1.2 hB.2 (fun c a w hq=>absurd hq (hn _ _ _)) (.inl ⟨by simp[Region.wanted,hg],h2⟩) (hk _ w ⟨ok,h,r.put (bG hd) h1⟩ Q hQ hn)
theorem KN {y:Operand} (hi:ops[i]?=some o) (hB:(Region.noSelect ops&&Region.free .any ops listed i&&(Region.ready .any ops listed).contains i)=true) (hg:o.guard=none)
 (ho:o.op= .move y∨o.op= .assign y) (he:ev true st y=some x) (hd:cV C.nt o.dst=true) (hk:eD C ops fuel (listed.setIfInBounds i true) (st.put o.dst x) K):eD C ops (fuel+1) listed st K:=by
 intro a w ⟨ok,h,r⟩ Q hQ hn
 simp only[Bool.and_eq_true]at hB
 exact wpAny_take (v:=a.eval y) hi hB.1.1 hB.1.2 hB.2 (fun c a w hq=>absurd hq (hn _ _ _)) (.inl ⟨by simp[Region.wanted,hg],fun w'=>by rcases ho with ho|ho<;>simp[execOp,ho]⟩) (hk _ w ⟨ok,h,r.put (bG hd) (aT rfl r he)⟩ Q hQ hn)
def Fx (C:Ctx) (ops:Array Oper) (fuel:Nat) (listed:Array Bool) (st:St) (K:St→Prop):List Nat→Prop
 |[]=>True
 |[i]=>mJ C ops i st fun st'=>eD C ops fuel (listed.setIfInBounds i true) st' K
 |i::r=>mJ C ops i st (fun st'=>eD C ops fuel (listed.setIfInBounds i true) st' K)∧Fx C ops fuel listed st K r
theorem Cd: ∀{rs:List Nat},Fx C ops fuel listed st K rs→ ∀i∈rs,mJ C ops i st fun st'=>eD C ops fuel (listed.setIfInBounds i true) st' K
 |[],_,i,hi=>by cases hi
 |[j],hx,i,hi=>by
  obtain rfl:i=j:=by simpa using hi
  exact hx
 |j::k::r,hx,i,hi=>by
  cases hi with
  |head=>exact hx.1
  |tail _ hi=>exact Cd hx.2 i hi
theorem Ah (rs:List Nat) (hr:Region.ready .any ops listed=rs) (hne:rs.isEmpty=false) (hx:Fx C ops fuel listed st K rs):eD C ops (fuel+1) listed st K:=by
 intro a w r Q hQ hn
 refine wpAny_all hr (fun e=>by rw[e]at hne;cases hne) fun i hi=>?_
 exact Cd hx i hi a w r Q _ fun a' w' st' hk r'=>hk a' w' r' Q hQ hn
theorem H9 (hc:cS C) (hnt:nt=C.nt) (hi:ops[i]?=some o) (he:Ends (step1 C.P nt ops false o (.go st True)) st' p []) (hp:p) (hk:K st'):mJ C ops i st K:=by
 intro a w ⟨ok,h,r⟩ Q K' hQ
 unfold wpOp
 rw[hi]
 simp only
 rcases lI (P:=C.P) (nt:=nt) (ops:=ops) (quiet:=false) (o:=o) (st:=st) (q:=True)with⟨g,x,r1,h1,h2,h3,e⟩|⟨_,s1,r1,h1,h2,e⟩|⟨h1,h2,e⟩|e|e<;>rw[e]at he
 ·obtain⟨rfl,rfl,_⟩:=he
  rw[bV r h1]
  by_cases hg:g=true
  ·rw[if_pos hg]
   obtain⟨v,h4,h5⟩:=mE r (fun g hg x y=>aT hg r) (hg▸h2) (hp.2 hg)
   left
   unfold Oper.wp
   rw[h5 w (fun _ _=>rfl)]
   exact hQ _ _ _ hk ⟨ok,h,r.put (bG (hnt▸h3)) (fW hg h4)⟩
  ·rw[if_neg hg]
   exact hQ _ _ _ hk ⟨ok,h,r.put (bG (hnt▸h3)) (fF h1 QJ)⟩
 ·obtain⟨rfl,rfl,_⟩:=he
  rw[bV r h1,if_pos rfl]
  obtain⟨v,w',ok',h',hr,u,hu,r'⟩:=zX hc hnt h2 ok h a w r hp.2
  left
  unfold Oper.wp
  rw[hr]
  rcases hu with rfl|⟨rfl,rfl⟩<;>exact hQ _ _ _ hk ⟨ok',h',r'⟩
 ·obtain⟨rfl,rfl,_⟩:=he
  rw[bV r h1,if_neg qE]
  exact hQ _ _ _ hk ⟨ok,h,r.put (bG (hnt▸h2)) (.any _)⟩
 ·exact absurd he.2.2 qE
 ·exact he.elim
theorem MC (i:Nat) (hc:bB C P nt) (hi:ops[i]?=some o) (hB:(Region.noSelect ops&&Region.free .any ops listed i&&(Region.ready .any ops listed).contains i)=true) (hg:o.guard=none)
 (he:aA (ro P (fun g=>ev g (lO st)) true [] o.op) (x,p)) (hp:p) (hx:fO x=true) (hd:cV nt o.dst=true) {st2:St} (h2:aA (some (st.put o.dst x)) st2) (hk:eD C ops fuel (listed.setIfInBounds i true) st2 K):eD C ops (fuel+1) listed st K:=by
 obtain⟨rfl,rfl,hok⟩:=hc
 cases h2
 exact KM hi hB hg he hp hx hd hk
theorem tP (i:Nat) {y:Operand} (hc:bB C P nt) (hi:ops[i]?=some o) (hB:(Region.noSelect ops&&Region.free .any ops listed i&&(Region.ready .any ops listed).contains i)=true) (hg:o.guard=none)
 (ho:o.op= .move y∨o.op= .assign y) (he:aA (ev true st y) x) (hd:cV nt o.dst=true) {st2:St} (h2:aA (some (st.put o.dst x)) st2) (hk:eD C ops fuel (listed.setIfInBounds i true) st2 K):eD C ops (fuel+1) listed st K:=by
 obtain⟨rfl,rfl,hok⟩:=hc
 cases h2
 exact KN hi hB hg ho he hd hk
theorem vR (hc:bB C P nt) (hi:ops[i]?=some o) (he:Ends (step1 P nt ops false o (.go st True)) st' p []) (hp:p) (hk:K st'):mJ C ops i st K:=by
 obtain⟨rfl,rfl,hok⟩:=hc
 exact H9 hok rfl hi he hp hk
theorem xL (n:Nat) {st1:St} {id:Nat} {l:List Oper} (hc:bB C P nt) (hm:P.follows .mixedOrders=true) (hn:l.length=n) (hl:eD C l.toArray n (Array.replicate n false) st fun st'=>Le C st1 st') (hk:Q .normal st1):ewp C (.region id l.toArray true) Q st:=by
 obtain⟨rfl,rfl,hok⟩:=hc
 subst hn
 rintro a w ⟨ok,h,r⟩
 refine wp_mono (Q:=fun e a' w'=>e= .normal∧kZ C st1 a' w') (wp_region_any hm (hl a _ ⟨ok,h,?_⟩ _ (fun a' w' st' hle r'=>⟨rfl,hle a' w' r'⟩) fun c a w hq=>by cases hq.1)) ?_
 ·exact r.below hok ((Below.refl _ w).drew)
 ·rintro e a' w' ⟨rfl,r'⟩
  exact⟨st1,hk,r'⟩
end
theorem Jz {C:Ctx} {ops:Array Oper} {l:List Oper} {st st':St} {K:St→Prop} (hl:Le C st' st) (hx:cC C ops l st' K):cC C ops l st K:=fun a w r Q hQ=>hx a w (hl a w r) Q hQ
theorem rB (id:Nat) {C:Ctx} {P:Program} {nt:Nat} {ops:Array Oper} {l:List Oper} {st st2:St} {q:Prop} {K:St→Prop} (hc:bB C P nt) (he:aA (xK id st) (st2,q)) (hp:q) (hk:cC C ops l st2 K):cC C ops l st K:=Jz (Df id hc he hp (Le.refl _ _)) hk
def JA (l:List Oper):Bool:=l.all fun o=>match o.op with| .store .. | .alloc .. | .box .. | .mapUpdate .. | .insert .. | .entryStore .. | .buildSlice .. =>false|_=>true
theorem dM {C:Ctx} {P:Program} {nt:Nat} {st st':St} {p:Prop} {Q:Exit→St→Prop} {l l':List Oper} {id:Nat} (hc:bB C P nt) (hm:P.follows .mixedOrders=true) (hS:JA l=true) (hB:Region.lexB .any l.toArray=true) (he:Ends (iK P nt l.toArray true l (.go st True)) st' p l') (hp:p) (hk:cL C l.toArray l' st' fun st'=>Q .normal st'):ewp C (.region id l.toArray true) Q st:=vQ hc hm hB he hp hk
theorem Zn {C:Ctx} {P:Program} {nt:Nat} {st st':St} {p:Prop} {Q:Exit→St→Prop} {l l':List Oper} {id:Nat} (hc:bB C P nt) (hm:P.follows .mixedOrders=true:=by kernel_rfl) (hS:JA l=true:=by decide) (hB:Region.lexB .any l.toArray=true:=by kernel_rfl) (he:Ends (iK P nt l.toArray true l (.go st True)) st' p l':=by simp;exact Ends.halt) (hp:p:=by first|exact True.intro|omega|assumption|(simp;done)|(simp;omega)|(simp at*;omega)) (hk:cL C l.toArray l' st' fun st'=>Q .normal st'):ewp C (.region id l.toArray true) Q st:=dM hc hm hS hB he hp hk
attribute [simp] fO Af lO Fx
def cJ (d d':D):Prop:= ∀(w:World) (ok:Nat→Prop) (v:Value),RdD w ok d v→RdD w ok d' v
theorem cJ.refl (d:D):cJ d d:=fun _ _ _ h=>h
theorem bY (f:Nat→List D):cJ (.lit (.slice none 0 0)) (.sl 0 f):=fun w ok v h=>by
 cases h
 exact .sl 0 f none 0 0 0 0 (fun _ _=>undef) qD (Nat.zero_le _) (fun h=>by omega) (fun i hi=>by omega) (fun i k hi=>by omega) (fun i k d hi=>by omega)
theorem nJ {n:Nat} {f g:Nat→List D} (hl: ∀i,i<n→(g i).length=(f i).length) (hw: ∀(i k:Nat) (d:D),i<n→(g i)[k]?=some d→ ∃d0,(f i)[k]?=some d0∧cJ d0 d):cJ (.sl n f) (.sl n g):=fun w ok v h=>by
 cases h with
 |sl _ _ A cap size b off gg hc hm hA hl' hg hr=>
  refine .sl n g A cap size b off gg hc hm hA (fun i hi=>by rw[hl i hi];exact hl' i hi) hg fun i k d hi hk=>?_
  obtain⟨d0,h1,h2⟩:=hw i k d hi hk
  exact h2 _ _ _ (hr i k d0 hi h1)
theorem Fy {cs ds:List D} (hl:ds.length=cs.length) (hw: ∀(k:Nat) (d:D),ds[k]?=some d→ ∃d0,cs[k]?=some d0∧cJ d0 d):cJ (.tup cs) (.tup ds):=fun w ok v h=>by
 cases h with
 |tup _ vs g hn hg hr=>
  refine .tup ds vs g qD (fun i hi=>hg i qD) fun i d hd=>?_
  obtain⟨d0,h1,h2⟩:=hw i d hd
  exact h2 _ _ _ (hr i d0 h1)
theorem aJ.MD {P:Program} {f:FuncId} {args:List D} {res res':D} (h:aJ P f args res) (hw:cJ res res'):aJ P f args res':=
 ⟨h.1,fun ok w vs h1 h2 h3=>(h.2 ok w vs h1 h2 h3).mono fun _ _ ⟨v,h4,h5,h6⟩=>⟨v,h4,h5,hw _ _ _ h6⟩⟩
section
variable {C:Ctx} {P:Program} {nt:Nat} {st st':St} {o:Oper} {x:V} {p:Prop} {K:St→Prop} {ops:Array Oper} {listed:Array Bool} {fuel i:Nat}
theorem Ia (hi:ops[i]?=some o) (hB:(Region.noSelect ops&&Region.free .any ops listed i&&(Region.ready .any ops listed).contains i)=true) {g:Bool} (hw:gE ops o st=some g)
 (he:ro C.P (fun g=>ev g (lO st)) g [] o.op=some (x,p)) (hp:g=true→p) (hx:fO x=true) (hd:cV C.nt o.dst=true) (hk:eD C ops fuel (listed.setIfInBounds i true) (st.put o.dst (gI o g x)) K):eD C ops (fuel+1) listed st K:=by
 intro a w ⟨ok,h,r⟩ Q hQ hn
 simp only[Bool.and_eq_true]at hB
 have hwt:=bV r hw
 by_cases hg:g=true
 ·obtain⟨v,h1,h2⟩:=Ag r (hg▸he) (hp hg) hx
  exact wpAny_take (v:=v) hi hB.1.1 hB.1.2 hB.2 (fun c a w hq=>absurd hq (hn _ _ _)) (.inl ⟨by rw[hwt,hg],h2⟩) (hk _ w ⟨ok,h,r.put (bG hd) (fW hg h1)⟩ Q hQ hn)
 ·have hg':g=false:=by simpa using hg
  exact wpAny_take (v:=undef) hi hB.1.1 hB.1.2 hB.2 (fun c a w hq=>absurd hq (hn _ _ _)) (.inr ⟨by rw[hwt,hg'],rfl⟩) (hk _ w ⟨ok,h,r.put (bG hd) (fF hw hg')⟩ Q hQ hn)
theorem ME (i:Nat) (hc:bB C P nt) (hi:ops[i]?=some o) (hB:(Region.noSelect ops&&Region.free .any ops listed i&&(Region.ready .any ops listed).contains i)=true) {g:Bool} (hw:aA (gE ops o st) g)
 (he:aA (ro P (fun g=>ev g (lO st)) g [] o.op) (x,p)) (hp:g=true→p) (hx:fO x=true) (hd:cV nt o.dst=true) {st2:St} (h2:aA (some (st.put o.dst (gI o g x))) st2) (hk:eD C ops fuel (listed.setIfInBounds i true) st2 K):eD C ops (fuel+1) listed st K:=by
 obtain⟨rfl,rfl,hok⟩:=hc
 cases h2
 exact Ia hi hB hw he hp hx hd hk
theorem Ib {x:Operand} {f:FuncId} {args:Array Operand} {ts:Array TypeId} {y:V} {xs caps:List V} {ds:List D} {b g:Bool} {res:D} (hc:cS C) (hi:ops[i]?=some o)
 (hw:gE ops o st=some g) (ho:o.op= .call {callee:= .value x,args:=args,argTypes:=ts}) (hy:ev g st x=some y) (hx:cF (some y)=some (f,caps)) (hl:evL g st args.toList=some xs) (ha:iY st (xs++caps)=some (ds,b))
 (hf:g=true→aJ C.P f ds res) (hb:b=false∨flat res=true) (hd:cV C.nt o.dst=true) (hk:K (st.put o.dst (gI o g (.d res)))):mJ C ops i st K:=by
 intro a w ⟨ok,h,r⟩ Q K' hQ
 unfold wpOp
 rw[hi]
 simp only
 rw[bV r hw]
 by_cases hg:g=true
 rotate_left
 ·rw[if_neg hg]
  exact hQ _ _ _ hk ⟨ok,h,r.put (bG hd) (fF hw QJ)⟩
 rw[if_pos hg]
 left
 replace hf:=hf hg
 unfold Oper.wp
 obtain⟨cs,h1,h2,h3⟩:=fM hg r hx (aT hg r hy) hl
 rw[Array.toArray_toList]at h2 h3
 rw[oY hf.1 ho h1,Oper.upon_enter]
 refine(hf.2 (if b then dU ok h st else ok) w _ (fun k hk=>?_) (r.mem.std hc) (yX r ha h2 h3)).mono fun e w' ⟨v,he,hbl,hr⟩=>?_
 ·split at hk
  ·rcases hk with hk|⟨id,o1,h3,h4⟩
   ·exact(r.mem.okb k hk).1
   ·exact(r.mem.blk id o1 k h3 h4).1
  ·exact(r.mem.okb k hk).1
 ·subst he
  refine hQ _ _ _ hk ⟨fresh ok w w',h,?_⟩
  have hr':RdD w' (fresh ok w w') res v:=by
   rcases hb with hb|hb
   ·subst hb;exact hr
   ·exact hr.flat (pW hb)
  have hmem:=r.mem.below (ok':=fresh ok w w') hbl (fun b hb=> .inl hb) (fun b hb=>hb) hc.lt
  have r':Rep C st (fresh ok w w') h a w':=⟨hmem,r.defers,r.nt,r.pin,fun i y hy=>by
   obtain⟨h5,u,h6,h7⟩:=r.slot i y hy
   exact⟨h5,u,h6,h7.mono (fun b hb=>hbl.block b (r.mem.okb b hb).1) fun b hb=> .inl hb⟩⟩
  exact r'.put (bG hd) (fW hg (.d _ _ hr'))
theorem KO (hc:bB C P nt) {x:Operand} {f:FuncId} {args:Array Operand} {ts:Array TypeId} {y:V} {xs caps:List V} {ds:List D} {b g:Bool} {res:D} (hi:ops[i]?=some o) (ho:o.op= .call {callee:= .value x,args:=args,argTypes:=ts})
 (hw:aA (gE ops o st) g) (hy:aA (ev g st x) y) (hx:aA (cF (some y)) (f,caps)) (hl:aA (evL g st args.toList) xs) (ha:aA (iY st (xs++caps)) (ds,b)) (hf:g=true→aJ P f ds res) (hb:(!b||flat res)=true) (hd:cV nt o.dst=true)
 (hk:K (st.put o.dst (gI o g (.d res)))):mJ C ops i st K:=by
 obtain⟨rfl,rfl,hok⟩:=hc
 exact Ib hok hi hw ho hy hx hl ha hf (by cases b<;>simp_all) hd hk
end
section
variable {C:Ctx} {P:Program} {nt:Nat} {st:St}
theorem iM (hc:bB C P nt) {o:Oper} {ops:Array Oper} {rest:List Oper} {K:St→Prop} (hw:aA (gE ops o st) false) (hd:cV nt o.dst=true) (hk:cC C ops rest (st.put o.dst .any) K):cC C ops (o::rest) st K:=by
 obtain⟨rfl,rfl,hok⟩:=hc
 exact B7 hw hd hk
end
end Go.Lw
