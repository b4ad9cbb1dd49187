/- ADDRESS, IN PLAIN LEAN: keys without rules, and what they lead to. -/
import Derived.Test.YtdjfgcjlnfnfhaaGreatDoorLwTail
import Derived.ProofKit
import Derived.OpenShut
import Derived.ShutString
import Derived.ChangeOld
import Derived.Below
import Derived.Deep.Slices
import Derived.Shelf.Vars
import Derived.HandedShaped
import Derived.SizedLaws
import Derived.Test.YtdjfgcjlnfnfhaaGreatDoorAdA
import Derived.Test.YtdjfgcjlnfnfhaaGreatDoorLkA
import Derived.Test.YtdjfgcjlnfnfhaaGreatDoorLwEx
import Derived.Test.YtdjfgcjlnfnfhaaGreatDoorMsB
import Derived.Test.YtdjfgcjlnfnfhaaGreatDoorDtE
import Derived.Test.YtdjfgcjlnfnfhaaGreatDoorJnB
set_option linter.unusedSimpArgs false
set_option linter.unusedVariables false
namespace Go.Lw
open Go.RowKit Go.ChangeShapes Go.WideShapes Go.ChangeAt
abbrev here (w:World):Nat→Prop:=fun b=>b<w.heap.size
abbrev Wt {H:Type} (P:Program) (t:TypeId) (d:DataW H):Prop:= ∀n∈d.weights P t,n≤reachBytes
theorem oJ {H:Type} {P:Program} {e:TypeId}: ∀{ds:List (DataW H)} {d:DataW H},d∈ds→ ∀n∈d.weights P e,n∈DataW.weightsAll P e ds
 |d0::ds,d,hd,n,hn=>by
  simp only[DataW.weightsAll,List.mem_append]
  cases hd with
  |head=>exact .inl hn
  |tail _ hd=>exact .inr (oJ hd n hn)
 |[],_,hd,_,_=>by cases hd
theorem wH {H:Type} {P:Program} {ts:List TypeId} {ds:List (DataW H)} (h:(DataW.weightsEach P ts ds).all (· ≤reachBytes)=true) {j:Nat} {t:TypeId} {d:DataW H} (ht:ts[j]?=some t) (hd:ds[j]?=some d):Wt P t d:=
 fun n hn=>by simpa using List.all_eq_true.1 h n (DataW.weights_mem_each ht hd n hn)
def Opn {α:Type} (P:Program) (t:TypeId) (e:α→List D) (p:α→Prop):Prop:=
 ∀(H:Type) (enc:TypeId×Value→H) (w:World) (base:Nat) (spare:Nat→Bool) (held:Bool) (fuel:Nat) (cs:List Value) (x:DataW H×List MemPlace),
  DataW.trod enc P w base spare held fuel t cs=some x→Wt P t x.1→ ∃a:α,p a∧(e a).length=cs.length∧ ∀(k:Nat) (d:D),(e a)[k]?=some d→ ∃v,cs[k]?=some v∧RdD w (here w) d v
theorem Opn.one {α:Type} {w:World} {a:α} {d:D} {v:Value} {p:α→Prop} {e:α→List D} (he:e a=[d]) (hp:p a) (hr:RdD w (here w) d v):
 ∃a:α,p a∧(e a).length=[v].length∧ ∀(k:Nat) (d:D),(e a)[k]?=some d→ ∃u,[v][k]?=some u∧RdD w (here w) d u:=
 ⟨a,hp,by rw[he];rfl,fun k d' hk=>by
   rw[he]at hk
   cases k with
   |zero=>cases hk;exact⟨v,rfl,hr⟩
   |succ k=>simp at hk⟩
theorem nV {P:Program} {t:TypeId} {k:IntKind} (ht:P.underlying t=some (.int k)):Opn P t (fun n:Int=>[.lit (.int k n)]) (fun n=>inR k n):=by
 intro H enc w base spare held fuel cs x h _
 obtain⟨n,rfl,_,hw⟩:=DataW.trod_int ht h
 refine Opn.one (a:=n) rfl ?_ (.lit _)
 simpa[Lit.wf,inR]using hw
theorem NF {P:Program} {t:TypeId} (ht:P.underlying t=some .bool):Opn P t (fun b:Bool=>[.lit (.bool b)]) (fun _=>True):=by
 intro H enc w base spare held fuel cs x h _
 obtain⟨b,rfl,_⟩:=DataW.trod_bool ht h
 exact Opn.one (a:=b) rfl trivial (.lit _)
theorem II {P:Program} {t:TypeId} (ht:P.underlying t=some .string):Opn P t (fun s:ByteArray=>[.lit (.string s)]) (fun s=>s.size≤maxLen):=by
 intro H enc w base spare held fuel cs x h _
 obtain⟨s,rfl,_,hs⟩:=DataW.trod_string ht h
 exact Opn.one (a:=s) rfl hs (.lit _)
theorem GS {P:Program} {t:TypeId} (ht:P.underlying t=some .string):Opn P t (fun s:ByteArray=>[.lit (.string s)]) (fun s=>s.size≤reachBytes):=by
 intro H enc w base spare held fuel cs x h hx
 obtain⟨s,rfl,rfl,hs⟩:=DataW.trod_string ht h
 have h1:=hx s.data.toList.length (by simp[DataW.weights])
 exact Opn.one (a:=s) rfl QR (.lit _)
def XB {α:Type} (P:Program) (fs:List Field) (off:Nat) (e:α→List D) (p:α→Prop):Prop:=
 ∀(H:Type) (enc:TypeId×Value→H) (w:World) (base:Nat) (spare:Nat→Bool) (held:Bool) (fuel:Nat) (cs:List Value),
  (∀(i:Nat) (f:Field),fs[i]?=some f→ ∃x,DataW.trod enc P w base spare held fuel f.type ((cs.drop f.offset).take (P.cellsOf f.type))=some x∧Wt P f.type x.1)→
  ∃a:α,p a∧(off≤cs.length→(e a).length+off=cs.length)∧ ∀(k:Nat) (d:D),(e a)[k]?=some d→ ∃v,cs[off+k]?=some v∧RdD w (here w) d v
theorem IJ {α:Type} {P:Program} {t:TypeId} {fs:Array Field} {e:α→List D} {p:α→Prop} (ht:P.underlying t=some (.struct fs))
 (hf: ∀(H:Type) (enc:TypeId×Value→H) (w:World) (base:Nat) (spare:Nat→Bool) (held:Bool) (fuel:Nat) (cs:List Value),cs.length=P.cellsOf t→
   (∀(i:Nat) (f:Field),fs[i]?=some f→ ∃x,DataW.trod enc P w base spare held fuel f.type ((cs.drop f.offset).take (P.cellsOf f.type))=some x∧Wt P f.type x.1)→
   ∃a:α,p a∧(e a).length=cs.length∧ ∀(k:Nat) (d:D),(e a)[k]?=some d→ ∃v,cs[k]?=some v∧RdD w (here w) d v):Opn P t e p:=by
 intro H enc w base spare held fuel cs x h hwt
 obtain⟨xs,n,rfl,rfl,hlen,hxl,hg⟩:=DataW.trod_struct ht h
 refine hf H enc w base spare held n cs hlen fun i f hi=>?_
 have hlt:i<xs.length:=by rw[hxl];exact(Array.getElem?_eq_some_iff.1 hi).1
 refine⟨xs[i],by rw[hg i f hi];exact List.getElem?_eq_getElem hlt,fun m hm=>hwt m ?_⟩
 simp only[DataW.weights,ht]
 exact DataW.weights_mem_each (j:=i) (t:=f.type) (d:=xs[i].1) (by simp[hi]) (by simp[List.getElem?_eq_getElem hlt]) m hm
theorem GU {w:World} {e1 e2:List D} {cs:List Value} {n:Nat} (h1:e1.length=n) (hn:n≤cs.length) (r1: ∀(k:Nat) (d:D),e1[k]?=some d→ ∃v,(cs.take n)[k]?=some v∧RdD w (here w) d v)
 (r2: ∀(k:Nat) (d:D),e2[k]?=some d→ ∃v,(cs.drop n)[k]?=some v∧RdD w (here w) d v): ∀(k:Nat) (d:D),(e1++e2)[k]?=some d→ ∃v,cs[k]?=some v∧RdD w (here w) d v:=by
 intro k d hk
 by_cases hkn:k<n
 ·rw[List.getElem?_append_left qD]at hk
  obtain⟨v,h2,h3⟩:=r1 k d hk
  rw[List.getElem?_take,if_pos hkn]at h2
  exact⟨v,h2,h3⟩
 ·rw[List.getElem?_append_right qD]at hk
  obtain⟨v,h2,h3⟩:=r2 _ d hk
  rw[List.getElem?_drop,h1,show n+(k-n)=k by omega]at h2
  exact⟨v,h2,h3⟩
def P3 {α:Type} (P:Program) (fs:List (TypeId×Nat)) (off total:Nat) (e:α→List D) (p:α→Prop):Prop:=
 ∀(H:Type) (enc:TypeId×Value→H) (w:World) (base:Nat) (spare:Nat→Bool) (held:Bool) (fuel:Nat) (cs:List Value),cs.length=total→
  (∀(i:Nat) (q:TypeId×Nat),fs[i]?=some q→ ∃x,DataW.trod enc P w base spare held fuel q.1 ((cs.drop q.2).take (P.cellsOf q.1))=some x∧Wt P q.1 x.1)→
  ∃a:α,p a∧off+(e a).length=total∧ ∀(k:Nat) (d:D),(e a)[k]?=some d→ ∃v,(cs.drop off)[k]?=some v∧RdD w (here w) d v
theorem pJ {P:Program} {total:Nat}:P3 P [] total total (fun _:Unit=>[]) (fun _=>True):=
 fun H enc w base spare held fuel cs _ _=>⟨(),trivial,qE,fun k d hk=>by simp at hk⟩
theorem cM {α β:Type} {P:Program} {t:TypeId} {off total n:Nat} {fs:List (TypeId×Nat)} {e1:α→List D} {p1:α→Prop} {e2:β→List D} {p2:β→Prop} (hn:P.cellsOf t=n) (hle:off+n≤total)
 (h1:Opn P t e1 p1) (h2:P3 P fs (off+n) total e2 p2):P3 P ((t,off)::fs) off total (fun x:α×β=>e1 x.1++e2 x.2) (fun x=>p1 x.1∧p2 x.2):=by
 intro H enc w base spare held fuel cs hlen hf
 obtain⟨x,hx,hxw⟩:=hf 0 _ rfl
 simp only[hn]at hx
 obtain⟨a,pa,la,ra⟩:=h1 H enc w base spare held fuel _ x hx hxw
 obtain⟨b,pb,lb,rb⟩:=h2 H enc w base spare held fuel cs hlen (fun i q hi=>hf (i+1) q qU)
 have hl:((cs.drop off).take n).length=n:=by simp;omega
 rw[hl]at la
 refine⟨(a,b),⟨pa,pb⟩,qH,?_⟩
 refine GU la qH ra fun k d hk=>?_
 rw[List.drop_drop]
 exact rb k d hk
theorem pK {α:Type} {P:Program} {t:TypeId} {fs:Array Field} {l:List (TypeId×Nat)} {total:Nat} {e:α→List D} {p:α→Prop} (ht:P.underlying t=some (.struct fs)) (hl:fs.toList.map (fun f=>(f.type,f.offset))=l)
 (hc:P.cellsOf t=total) (hf:P3 P l 0 total e p):Opn P t e p:=by
 refine IJ ht fun H enc w base spare held fuel cs hlen hg=>?_
 obtain⟨a,pa,la,ra⟩:=hf H enc w base spare held fuel cs (hlen.trans hc) (fun i q hi=>by
  subst hl
  rw[List.getElem?_map]at hi
  obtain⟨f,hf,hq⟩:=Option.map_eq_some_iff.1 hi
  subst hq
  exact hg i f (by simpa using hf))
 exact⟨a,pa,qD,by simpa using ra⟩
theorem Opn.map {α β:Type} {P:Program} {t:TypeId} {e:α→List D} {p:α→Prop} {e':β→List D} {p':β→Prop} (h:Opn P t e p) (g:α→β) (he: ∀a,p a→e' (g a)=e a) (hp: ∀a,p a→p' (g a)):Opn P t e' p':=by
 intro H enc w base spare held fuel cs x hx hxw
 obtain⟨a,pa,la,ra⟩:=h H enc w base spare held fuel cs x hx hxw
 exact⟨g a,hp a pa,by rw[he a pa];exact la,by rw[he a pa];exact ra⟩
theorem rJ {α:Type} {P:Program} {t u:TypeId} {n:Nat} {e:α→List D} {p:α→Prop} (dflt:α) (ht:P.underlying t=some (.slice u)) (hn:P.cellsOf u=n) (h0:0<n) (h:Opn P u e p):
 Opn P t (fun l:List α=>[.sl l.length fun i=>e (l.getD i dflt)]) (fun l=>l.length≤maxLen∧ ∀x∈l,p x):=by
 intro H enc w base spare held fuel cs x hx hxw
 rcases Go.Deep.open_slice ht hx with⟨rfl,_⟩|⟨a,len,cap,m,n',Dt,Pl,rfl,_,hlc,hcm,hm,rfl,hel⟩
 ·exact Opn.one (a:=[]) rfl ⟨qE,qE⟩ (.sl 0 _ _ 0 0 0 0 (fun _ _=>undef) (Nat.le_refl _) (by simp[maxLen]) (fun h=>by omega) (fun i hi=>by omega) (fun i k hi=>by omega) (fun i k d hi=>by omega))
 ·have hml:len≤m:=by rw[hm];split<;>omega
  have hex: ∀i,i<len→ ∃b:α,p b∧(e b).length=n∧(∀k,k<n→ ∃v,w.cell? (a.add (i*n+k))=some v∧ ∀d,(e b)[k]?=some d→RdD w (here w) d v):=by
   intro i hi
   obtain⟨cs',hc,ht'⟩:=hel i qD
   rw[hn]at hc
   obtain⟨_,hcl,hat⟩:=World.cells?_some hc
   obtain⟨b,pb,lb,rb⟩:=h H enc w base spare held n' cs' _ ht' (fun k hk=>hxw k (by
    simp only[DataW.weights,ht,List.mem_cons,List.mem_append]
    exact .inr (.inl (oJ (List.mem_map.2 ⟨i,List.mem_range.2 hi,rfl⟩) k hk))))
   refine⟨b,pb,qD,fun k hk=>?_⟩
   have hkl:k<(e b).length:=by omega
   obtain⟨v,h1,h2⟩:=rb k _ (List.getElem?_eq_getElem hkl)
   refine⟨v,?_,fun d hd=>by rw[List.getElem?_eq_getElem hkl]at hd;cases hd;exact h2⟩
   rw[←Go.Deep.add_add,hat k hk,h1]
  let g:Nat→α:=fun i=>if hi:i<len then Classical.choose (hex i hi)else dflt
  have hgd: ∀i (hi:i<len),g i=Classical.choose (hex i hi):=fun i hi=>by simp[g,hi]
  have hg: ∀i,i<len→p (g i)∧(e (g i)).length=n∧(∀k,k<n→ ∃v,w.cell? (a.add (i*n+k))=some v∧ ∀d,(e (g i))[k]?=some d→RdD w (here w) d v):=fun i hi=>by
   rw[hgd i hi];exact Classical.choose_spec (hex i hi)
  let l:List α:=(List.range len).map g
  have hll:l.length=len:=by simp[l]
  have hlg: ∀i,i<len→l.getD i dflt=g i:=fun i hi=>by simp[l,List.getD,hi]
  refine Opn.one (a:=l) (v:= .slice (some a) len cap) (d:= .sl l.length fun i=>e (l.getD i dflt)) rfl ⟨qD,fun x hx=>?_⟩ ?_
  ·simp only[l,List.mem_map,List.mem_range]at hx
   obtain⟨i,hi,rfl⟩:=hx
   exact(hg i hi).1
  ·rw[hll]
   rcases Nat.eq_zero_or_pos len with h00|hpos
   ·subst h00
    exact .sl 0 _ _ cap 0 0 0 (fun _ _=>undef) (Nat.zero_le _) hcm (fun h=>by omega) (fun i hi=>by omega) (fun i k hi=>by omega) (fun i k d hi=>by omega)
   ·obtain⟨v0,hv0,_⟩:=(hg 0 hpos).2.2 0 h0
    have hspot:a.spot=none:=by
     have e0:a.add (0*n+0)=a:=by simp[Addr.add]
     rw[e0]at hv0
     exact World.cell?_spot hv0
    obtain⟨b,off,sp⟩:=a
    simp only at hspot
    subst hspot
    have hb:b<w.heap.size:=by
     have e0:(⟨b,off,none⟩:Addr).add (0*n+0)=⟨b,off,none⟩:=by simp[Addr.add]
     rw[e0]at hv0
     unfold World.cell? at hv0
     rcases Nat.lt_or_ge b w.heap.size with hlt|hge
     ·exact hlt
     ·simp[Array.getElem?_eq_none hge]at hv0
    refine .sl len _ _ cap n b off (fun i k=>(w.cell? ⟨b,off+i*n+k,none⟩).getD undef) hlc hcm (fun _=>⟨rfl,hb⟩) (fun i hi=>?_) (fun i k hi hk=>?_) (fun i k d hi hk=>?_)
    ·rw[hlg i hi];exact(hg i hi).2.1
    ·obtain⟨v,hv,_⟩:=(hg i hi).2.2 k hk
     rw[addr_add,←Nat.add_assoc]at hv
     simp[hv]
    ·rw[hlg i hi]at hk
     have hkn:k<n:=by rw[←(hg i hi).2.1];exact(List.getElem?_eq_some_iff.1 hk).1
     obtain⟨v,hv,hd⟩:=(hg i hi).2.2 k hkn
     rw[addr_add,←Nat.add_assoc]at hv
     simp only[hv,Option.getD_some]
     exact hd d hk
def NG {α:Type} (P:Program) (t:TypeId) (e:α→D) (p:α→Prop):Prop:=
 ∀(H:Type) (enc:TypeId×Value→H) (w:World) (b0:Nat) (v:Value) (d:DataW H) (ps:List MemPlace),Value.okWide P w .any b0 t v→DataW.Trod enc P w 0 (fun _=>true) true t v d ps→Wt P t d→ ∃a:α,p a∧RdD w (here w) (e a) v
theorem DO {P:Program} {w:World} {b0:Nat} {t:TypeId} {v:Value} (ha:aK P t=some false) (hv:Value.okWide P w .any b0 t v):v.cells= #[v]:=by
 unfold aK at ha
 unfold Value.okWide at hv
 cases hu:P.underlying t with
 |none=>simp[hu]at ha
 |some d=>
  cases v with
  |agg cs=>
   rw[hu]at ha hv
   cases d<;>simp_all[Cell.okWide,Cell.ok]
  |_=>rfl
theorem Cv {α:Type} {P:Program} {t:TypeId} {e:α→List D} {e':α→D} {p:α→Prop} (h:Opn P t e p) (he: ∀a,e a=[e' a]) (ha:aK P t=some false):NG P t e' p:=by
 rintro H enc w b0 v d ps hv ⟨fuel,ht⟩ hxw
 obtain⟨a,pa,la,ra⟩:=h H enc w _ _ _ fuel _ _ ht hxw
 obtain⟨u,h1,h2⟩:=ra 0 (e' a) (by rw[he];rfl)
 rw[DO ha hv]at h1
 cases h1
 exact⟨a,pa,h2⟩
theorem GV {α:Type} {P:Program} {t:TypeId} {fs:Array Field} {e:α→List D} {p:α→Prop} (h:Opn P t e p) (hs:P.underlying t=some (.struct fs)):NG P t (fun a=> .agg (e a)) p:=by
 rintro H enc w b0 v d ps hv ⟨fuel,ht⟩ hxw
 obtain⟨cs,rfl,_⟩:=okWide_struct hs hv
 obtain⟨a,pa,la,ra⟩:=h H enc w _ _ _ fuel _ _ ht hxw
 simp only[Value.cells,Array.length_toList]at la ra
 refine⟨a,pa,.agg (e a) cs (fun k=>cs.getD k undef) la.symm (fun i hi=>?_) (fun i d hd=>?_)⟩
 ·have:i<cs.size:=by omega
  simp[Array.getElem?_eq_getElem this]
 ·obtain⟨u,h1,h2⟩:=ra i d hd
  have:cs.getD i undef=u:=by
   rw[Array.getElem?_toList]at h1
   simp[Array.getD_eq_getD_getElem?,h1]
  rw[this];exact h2
theorem rW {H:Type} {enc:TypeId×Value→H} {P:Program} (hl:laidOutB P=true) {W W':World} (hb:Below W.heap.size W W'): ∀{ts:List TypeId} {vs:List Value} {ds:List (DataW H)} {ps:List MemPlace},
 (∀t∈ts,P.readableRec t=true∧t<P.types.size)→DataW.TrodAll enc P W 0 (fun _=>true) true ts vs ds ps→DataW.TrodAll enc P W' 0 (fun b=>decide (b<W.heap.size)) true ts vs ds ps
 |[],[],[],ps,_,h=>h
 |t::ts,v::vs,d::ds,ps,hr,h=>by
  obtain⟨p,q,h1,h2,rfl⟩:=h
  have lt: ∀x∈p,x.block<W.heap.size:=by obtain⟨m,hm⟩:=h1;exact DataW.trod_lt m _ _ _ hm
  exact⟨p,q,Below.trod hl (hr t List.mem_cons_self).1 (hr t List.mem_cons_self).2 h1 hb lt,rW hl hb (fun u hu=>hr u (List.mem_cons_of_mem _ hu)) h2,rfl⟩
 |[],_::_,_,_,_,h=>by cases h
 |[],[],_::_,_,_,h=>by cases h
 |_::_,[],_,_,_,h=>by cases h
 |_::_,_::_,[],_,_,h=>by cases h
theorem pL {H:Type} {enc:TypeId×Value→H} {P:Program} {W:World} {b:Nat} {sp:Nat→Bool} {hd:Bool}: ∀{ts:List TypeId} {vs:List Value} {ds:List (DataW H)} {ps:List MemPlace},
 DataW.TrodAll enc P W b sp hd ts vs ds ps→ds.length=ts.length
 |[],[],[],_,_=>rfl
 |t::ts,v::vs,d::ds,ps,h=>by
  obtain⟨p,q,_,h2,_⟩:=h
  simp[pL h2]
 |[],_::_,_,_,h=>by cases h
 |[],[],_::_,_,h=>by cases h
 |_::_,[],_,_,h=>by cases h
 |_::_,_::_,[],_,h=>by cases h
def WU (P:Program):Bool:=(List.range P.globals.size).all fun g=>
 match((begin P (fun _ _=>0) default).world.heap[g]?).bind Obj.row? with
 |some (zero,t)=>((P.globals[g]?).map (·.type)==some t)&&(match P.underlying t with
  |some (.int _)=>zero.size==1&&P.buildable t&&(P.cellTypes P.depth t==some [t])
  |_=>true)
 |none=>false
theorem BK {P:Program} {w:World} (hB:WU P=true) (h:w.ShapedOpen P) (hE:HI P w):Std P w:=by
 have key: ∀g,g<P.globals.size→ ∃zero t,((begin P (fun _ _=>0) default).world.heap[g]?).bind Obj.row?=some (zero,t)∧(P.globals[g]?).map (·.type)=some t∧
  ∀k,P.underlying t=some (.int k)→zero.size=1∧P.buildable t=true∧P.cellTypes P.depth t=some [t]:=by
  intro g hg
  have hb:=List.all_eq_true.1 hB g QJ
  revert hb
  cases hr:((begin P (fun _ _=>0) default).world.heap[g]?).bind Obj.row? with
  |none=>intro hb;cases hb
  |some x=>
   obtain⟨zero,t⟩:=x
   intro hb
   simp only[Bool.and_eq_true,beq_iff_eq]at hb
   refine⟨zero,t,rfl,hb.1,fun k hk=>?_⟩
   have h2:=hb.2
   rw[hk]at h2
   simp only[Bool.and_eq_true,beq_iff_eq]at h2
   exact⟨h2.1.1,h2.1.2,h2.2⟩
 refine⟨?_,fun g t k hg hk=>?_,hE⟩
 ·rcases Nat.eq_zero_or_pos P.globals.size with h0|h0
  ·omega
  ·obtain⟨zero,t,h1,_⟩:=key (P.globals.size-1) qD
   obtain⟨cs,h2,_⟩:=h.1 _ zero t qD h1
   have:=(Array.getElem?_eq_some_iff.1 h2).1
   omega
 ·have hlt:g<P.globals.size:=by
   rcases Nat.lt_or_ge g P.globals.size with h'|h'
   ·exact h'
   ·rw[Array.getElem?_eq_none h']at hg;cases hg
  obtain⟨zero,t',h1,h2,h3⟩:=key g hlt
  rw[h2]at hg
  cases hg
  obtain⟨h4,h5,h6⟩:=h3 k hk
  exact Go.Proofs.cell_of_shapedOpen_int h hlt h1 h4 h5 h6 hk
theorem DP {H:Type} {enc:TypeId×Value→H} {P:Program} {fid:FuncId} {f:Func} {s:ChangeSpec} {tb:TypeId} (laid:laidOutB P=true) (hrd: ∀t∈f.params.toList,P.readableRec t=true∧t<P.types.size)
 (hres:f.resultTypes= #[tb]) (hbool:P.underlying tb=some .bool) (hvars:s.vars=[]) (hfn: ∀ds:List (DataW H),ds.length=f.params.toList.length→s.fn H (ds++[])={results:=[.lit (.bool true)],args:=ds})
 {W:World} {args:Array Value} {ds gs:List (DataW H)} {before:List MemPlace} (hW:DataW.Whole enc P f.params.toList s.vars false W args.toList ds gs before)
 {dargs:List D} (hstd:Std P W) (hopen:kS W (here W) dargs args) (hok:aJ P fid dargs (.lit (.bool true))):
 Calls P fid args W fun e W'=> ∃v,e= .returned v∧s.post enc P f false true false false W args v W':=by
 refine(hok.2 (here W) W args (fun k hk=>hk) hstd hopen).mono fun e W' ⟨v,he,bel,hr⟩=>?_
 cases hr
 refine⟨_,he,?_⟩
 have hW':=hW
 obtain⟨p,q,hA,hV,rfl,_,_⟩:=hW
 rw[hvars]at hV
 obtain⟨rfl,rfl⟩:=trodVars_none hV
 have hspec:=hfn ds (pL hA)
 refine⟨ds,[],p++[],[],p,[],hW',?_,?_,?_,bel.frame _,fun h=>by cases h⟩
 ·rw[hspec,hres]
  exact trodAll_mk1 (shut_bool hbool _)
 ·rw[hspec]
  exact rW laid bel hrd hA
 ·rw[hspec,hvars]
  rfl
inductive Cw (w:World) (ok:Nat→Prop):List D→List Value→Prop where
 |nil:Cw w ok [] []
 |cons {d:D} {v:Value} {ds:List D} {vs:List Value} (h:RdD w ok d v) (t:Cw w ok ds vs):Cw w ok (d::ds) (v::vs)
theorem Cw.rd {w:World} {ok:Nat→Prop} {ds:List D} {vs:List Value} (h:Cw w ok ds vs):kS w ok ds ⟨vs⟩:=by
 induction h with
 |nil=>exact⟨rfl,fun i d hi=>by simp at hi⟩
 |cons h _ ih=>
  refine⟨by simpa using ih.1,fun i d hi=>?_⟩
  cases i with
  |zero=>cases hi;exact⟨_,qE,h⟩
  |succ i=>
   obtain⟨v,h1,h2⟩:=ih.2 i d qU
   exact⟨v,QR,h2⟩
end Go.Lw
namespace Go.Proofs.YtdjfgcjlnfnfhaaGreatDoor
open Go.Lw Go.RowKit Go.ChangeShapes Go.WideShapes Go.ChangeAt
set_option maxRecDepth 100000
set_option maxHeartbeats 1000000
theorem own:ownKnob Tryz.prog.godebug=none:=by kernel_rfl
theorem laidOut:laidOutB Tryz.prog=true:=by kernel_rfl
theorem S7:NG Tryz.prog 9 str (fun l:Bs=>l.length≤maxLen):=
 Cv ((II Tryz.underlying9).map (e':=fun l:Bs=>[str l]) (p':=fun l:Bs=>l.length≤maxLen) (fun b=>b.data.toList) (fun _ _=>rfl) (fun b h=>by simpa using h)) (fun _=>rfl) qC
theorem wI:Opn Tryz.prog 9 (fun l:Bs=>[str l]) (fun l:Bs=>l.length≤reachBytes):=
 (GS Tryz.underlying9).map (e':=fun l:Bs=>[str l]) (p':=fun l:Bs=>l.length≤reachBytes) (fun b=>b.data.toList) (fun _ _=>rfl) (fun b h=>by simpa using h)
def XC:Adr:={Adr.zero with scheme:=[104,116,116,112],host:=[101]}
theorem pM {b:Adr} (h:bX b=0):b.Fits:=by
 obtain⟨h1,h2⟩:=(kC b).1 h
 have hq:b.query.length≤(eV b).length:=by
  unfold eV
  split
  ·simp
  ·rename_i e
   have:b.query=[]:=Classical.byContradiction fun x=>e (h1.eI x)
   simp[this]
 have hg:b.dH.length≤(mP b).length:=by
  unfold mP
  split
  ·simp
  ·rename_i e
   have:b.dH=[]:=Classical.byContradiction fun x=>e (h1.fK x)
   simp[this]
 have hp:b.port.length≤(eK b).length:=by
  unfold eK
  split
  ·rename_i e;simp[e]
  ·simp
 have hl:(dF b).length=b.scheme.length+3+b.host.length+(eK b).length+(b.path.length+(eV b).length+(mP b).length):=by
  simp[dF,gU];omega
 exact⟨qD,qD,qD,qD,qD,qD⟩
end Go.Proofs.YtdjfgcjlnfnfhaaGreatDoor
namespace Go.Proofs.YtdjfgcjlnfnfhaaGreatDoor
open Go.Lw Go.RowKit
set_option maxRecDepth 100000
set_option maxHeartbeats 1000000
def AF (c:UInt8):UInt8:=if bE c then c-48 else if decide (97≤c.toNat)then c-97+10 else c-65+10
theorem NH {c:UInt8} (h:bR c=true):(AF c).toNat=if bE c=true then c.toNat-48 else if 97≤c.toNat then c.toNat-87 else c.toNat-55:=by
 have h1: ∀n:Fin 256,bR (UInt8.ofNat n.val)=true→(AF (UInt8.ofNat n.val)).toNat=if bE (UInt8.ofNat n.val)=true then(UInt8.ofNat n.val).toNat-48 else if 97≤(UInt8.ofNat n.val).toNat then(UInt8.ofNat n.val).toNat-87 else(UInt8.ofNat n.val).toNat-55:=by decide
 have h2:=h1 ⟨c.toNat,c.toNat_lt⟩
 simp only[UInt8.ofNat_toNat]at h2
 exact h2 h
theorem JX {c:UInt8} (h:bR c=true):(AF c).toNat<16:=by
 have h1: ∀n:Fin 256,bR (UInt8.ofNat n.val)=true→(AF (UInt8.ofNat n.val)).toNat<16:=by decide
 have h2:=h1 ⟨c.toNat,c.toNat_lt⟩
 simp only[UInt8.ofNat_toNat]at h2
 exact h2 h
theorem uF (c:UInt8) (h:bR c=true):aJ Tryz.prog 213 [u8 c] (u8 (AF c)):=by
 refine aW Tryz.func213 rfl qC Tryz.ntmps213 _ rfl qE fun C hc=>?_
 have hv:=NH h
 have hlt:=c.toNat_lt
 have hr:48≤c.toNat∧(bE c=false→65≤c.toNat)∧c.toNat≤102:=by
  simp only[bR,bE,Bool.or_eq_true,Bool.and_eq_true,decide_eq_true_eq,Bool.and_eq_false_iff,decide_eq_false_iff_not]at h⊢
  omega
 have hd0:=dQ c
 cases hd:bE c with
 |true=>
  rw[hd]at hd0
  rw[if_pos hd]at hv
  repeat' (first|refine Wd ?_|(refine Wc ?_ ?_<;>intro hb<;>try simp at hb)|refine Zw hc (hf:=by exact hd0) (hk:=?_)|refine Zq hc (hf:=by exact hd0) (hk:=?_)|refine Wn ?_|fail)
  all_goals try contradiction
  (refine Zl hc (hr:=?_))
  simp
  omega
 |false=>
  have h65:=hr.2.1 hd
  rw[hd]at hd0
  rw[if_neg (by rw[hd];decide)]at hv
  repeat' (first|refine Wd ?_|(refine Wc ?_ ?_<;>intro hb<;>try simp at hb)|refine Zw hc (hf:=by exact hd0) (hk:=?_)|refine Zq hc (hf:=by exact hd0) (hk:=?_)|refine Wn ?_|fail)
  all_goals try contradiction
  ·rw[if_pos qD]at hv
   (refine Zl hc (hr:=?_))
   simp
   omega
  ·rw[if_neg qD]at hv
   (refine Zl hc (hr:=?_))
   simp
   omega
def pN (c:UInt8):Bool:=jX c||bE c||decide (c.toNat=45)||decide (c.toNat=46)||decide (c.toNat=95)||decide (c.toNat=126)
def DQ (n:Nat):UInt8:=([48,49,50,51,52,53,54,55,56,57,65,66,67,68,69,70]:Bs)[n]?.getD 0
def two (h k:UInt8):UInt8:=UInt8.ofNat (16*(AF h).toNat+(AF k).toNat)
def rX (c:UInt8):Bs:=if pN c=true then[c]else[37,DQ (c.toNat/16),DQ (c.toNat%16)]
def fA:Bs→Bs
 |[]=>[]
 |c::r=>if c=37 then match r with
   |h::k::r2=>rX (two h k)++fA r2
   |r=>c::r
  else c::fA r
theorem NI (s:Bs) (j:Nat) (h:j<s.length) (h37: ¬s[j]?.getD 0=37):fA (s.drop j)=s[j]?.getD 0::fA (s.drop (j+1)):=by
 rw[show s.drop j=s[j]?.getD 0::s.drop (j+1)by rw[List.drop_eq_getElem_cons h];simp[h],fA.eq_def]
 simp only
 rw[if_neg h37]
theorem NJ (s:Bs) (j:Nat) (h:j+2<s.length) (h37:s[j]?.getD 0=37):fA (s.drop j)=rX (two (s[j+1]?.getD 0) (s[j+2]?.getD 0))++fA (s.drop (j+3)):=by
 have d: ∀i,i<s.length→s.drop i=s[i]?.getD 0::s.drop (i+1):=fun i hi=>by rw[List.drop_eq_getElem_cons hi];simp[hi]
 rw[d j qD,d (j+1) qD,d (j+2) qD,fA.eq_def]
 simp only
 rw[if_pos h37]
theorem P8 {h k:UInt8} (hh:bR h=true) (hk:bR k=true):
 IntKind.u8.wrap (((IntKind.u8.wrap (((AF h).toNat:Int)*2^min 4 IntKind.u8.bits)%2^IntKind.u8.bits).toNat ||| (AF k).toNat%2^IntKind.u8.bits:Nat):Int)=((two h k).toNat:Int):=by
 have h1:=JX hh
 have h2:=JX hk
 unfold two
 generalize (AF h).toNat=x at h1
 generalize (AF k).toNat=y at h2
 have key: ∀x y:Fin 16,IntKind.u8.wrap (((IntKind.u8.wrap ((x.val:Int)*2^min 4 IntKind.u8.bits)%2^IntKind.u8.bits).toNat ||| y.val%2^IntKind.u8.bits:Nat):Int)=((UInt8.ofNat (16*x.val+y.val)).toNat:Int):=by decide
 exact key ⟨x,h1⟩ ⟨y,h2⟩
theorem S8 (c:UInt8):(c.toNat:Int).fdiv (2^min 4 IntKind.u8.bits)=((c.toNat/16:Nat):Int):=by
 have key: ∀n:Fin 256,(n.val:Int).fdiv (2^min 4 IntKind.u8.bits)=((n.val/16:Nat):Int):=by decide
 exact key ⟨c.toNat,c.toNat_lt⟩
theorem S9 (c:UInt8):IntKind.u8.wrap ((c.toNat%2^IntKind.u8.bits &&& 15%2^IntKind.u8.bits:Nat):Int)=((c.toNat%16:Nat):Int):=by
 have key: ∀n:Fin 256,IntKind.u8.wrap ((n.val%2^IntKind.u8.bits &&& 15%2^IntKind.u8.bits:Nat):Int)=((n.val%16:Nat):Int):=by decide
 exact key ⟨c.toNat,c.toNat_lt⟩
theorem DR: ∀m:Bs,m.map (gR∘aZ)=m
 |[]=>rfl
 |c::m=>by rw[List.map_cons,DR m];simp[gR,aZ]
theorem row_one {s:Bs} {j:Nat} (h:j<s.length) (hr:isRow [] (s.drop j)) (h37: ¬s[j]?.getD 0=37):isRow [] (s.drop (j+1)):=by
 unfold isRow at hr⊢
 rw[Dv [] s j h,if_neg qE]at hr
 split at hr
 ·have:=congrArg Prod.snd hr;cases this
 ·have e1:=congrArg Prod.fst hr
  have e2:=congrArg Prod.snd hr
  simp only[List.length_drop]at e1 e2⊢
  exact Prod.ext qI e2
theorem Ln {s:Bs} {j:Nat} (h:j<s.length) (hr:isRow [] (s.drop j)) (h37:s[j]?.getD 0=37):j+2<s.length∧bR (s[j+1]?.getD 0)=true∧bR (s[j+2]?.getD 0)=true∧isRow [] (s.drop (j+3)):=by
 unfold isRow at hr⊢
 rw[Dv [] s j h,if_neg qE]at hr
 split at hr
 ·have:=congrArg Prod.snd hr;cases this
 ·split at hr
  ·rename_i h3
   have e1:=congrArg Prod.fst hr
   have e2:=congrArg Prod.snd hr
   simp only[List.length_drop]at e1 e2⊢
   exact⟨h3.1,h3.2.1,h3.2.2,Prod.ext qI e2⟩
  ·have:=congrArg Prod.snd hr;cases this
theorem GW (s:Bs) (hm:s.length≤100000) (hr:isRow [] s):aJ Tryz.prog 137 [str s] (str (fA s)):=by
 refine aW Tryz.func137 rfl qC Tryz.ntmps137 _ rfl qE fun C hc=>?_
 repeat' (first|refine Wd ?_|(refine Wc ?_ ?_<;>intro hb<;>try simp at hb)|refine Wn ?_|fail)
 refine aN (fun x:Nat×Bs=>⟨[(0,.d (str s)),(3,.os 40000 x.2.length),(4,.d (int x.1))],[(40000,.own 5 1 (true,[.lit (.int .u8 0)]) (x.2.map aZ))]⟩) (fun x=>x.1≤s.length∧isRow [] (s.drop x.1)∧fA s=x.2++fA (s.drop x.1)∧x.2.length≤x.1) (fun x=>s.length-x.1) (0,[]) ⟨qE,by simpa using hr,qE,qE⟩ (cQ [(3,none,40000,5,[.lit (.int .u8 0)])] [0,3,4] [40000] qA qA qA) ?_
 rintro⟨j,m⟩ ⟨h1,h2,h3,h4⟩
 simp only at h1 h2 h3 h4⊢
 by_cases hj:j<s.length
 rotate_left
 ·rw[List.drop_of_length_le qD]at h3
  rw[h3]
  repeat' (first|refine Wd ?_|(refine Wc ?_ ?_<;>intro hb<;>try simp at hb)|refine Wn ?_|fail)
  all_goals try(exfalso;omega)
  rw[show fA []=([]:Bs)from rfl,List.append_nil]
  (refine Zl hc (hr:=?_))
  simp[DR]
 by_cases h37:s[j]?.getD 0=37
 rotate_left
 ·have e:=NI s j hj h37
  have h37': ¬(((s[j]?.getD 0).toNat:Int)=37):=fun x=>h37 (UInt8.toNat_inj.1 qH)
  repeat' (first|refine Wd ?_|(refine Wc ?_ ?_<;>intro hb<;>try simp at hb)|refine Wn ?_|fail)
  all_goals try(exfalso;omega)
  refine⟨(j+1,m++[s[j]?.getD 0]),⟨qH,row_one hj h2 h37,by rw[h3,e];simp,qH⟩,qH,aC [0,3,4] [40000] qA qA qE⟩
 ·obtain⟨g1,g2,g3,g4⟩:=Ln hj h2 h37
  have e:=NJ s j g1 h37
  have h37':(((s[j]?.getD 0).toNat:Int)=37):=by rw[h37];rfl
  have hn:=P8 g2 g3
  repeat' (first|refine Wd ?_|(refine Wc ?_ ?_<;>intro hb<;>try simp at hb)|refine Zw hc (hf:=by first|exact uF _ g2|exact uF _ g3) (hk:=?_)|refine Zq hc (hf:=by first|exact uF _ g2|exact uF _ g3) (hk:=?_)|refine Wn ?_|fail)
  all_goals try(exfalso;omega)
  rw[hn]
  generalize two (s[j+1]?.getD 0) (s[j+2]?.getD 0)=c at e
  repeat' (first|refine Wd ?_|(refine Wc ?_ ?_<;>intro hb<;>try simp at hb)|refine Zw hc (hf:=Qr) (hk:=?_)|refine Zq hc (hf:=Qr) (hk:=?_)|refine Wn ?_|fail)
  ·have hk:pN c=true:=by
    rcases hb with((((h|h)|h)|h)|h)|h
    ·simp[pN,h]
    ·simp[pN,h]
    ·simp[pN,show c.toNat=45 by omega]
    ·simp[pN,show c.toNat=46 by omega]
    ·simp[pN,show c.toNat=95 by omega]
    ·simp[pN,show c.toNat=126 by omega]
   have hB:rX c=[c]:=by unfold rX;rw[if_pos hk]
   rw[hB]at e
   refine⟨(j+3,m++[c]),⟨qH,g4,by rw[h3,e];simp,qH⟩,qH,aC [0,3,4] [40000] qA qA qH⟩
  ·have hk:pN c=false:=by
    have n1: ¬c.toNat=45:=by omega
    have n2: ¬c.toNat=46:=by omega
    have n3: ¬c.toNat=95:=by omega
    have n4: ¬c.toNat=126:=by omega
    simp[pN,hb.1.1.1.1.1,hb.1.1.1.1.2,n1,n2,n3,n4]
   have hB:rX c=[37,DQ (c.toNat/16),DQ (c.toNat%16)]:=by unfold rX;rw[if_neg (by rw[hk];decide)]
   rw[hB]at e
   have hi:=S8 c
   have lo:=S9 c
   have hcl:=c.toNat_lt
   have hd1:c.toNat/16<16:=by omega
   have hd2:c.toNat%16<16:=by omega
   clear hn
   (apply Xd 10 hc;(focus(refine Xm 0 hc (hk:=?_);refine Xm 1 hc (hk:=?_);refine Xp 2 hc (hk:=?_);refine Xp 3 hc (hk:=?_);refine Xm 4 hc (hk:=?_);refine Xp 5 hc (hk:=?_);refine Xp 6 hc (hk:=?_);refine Xa [7] (hx:=?_);(focus(refine Xw hc (hk:=?_);refine Xa [8] (hx:=?_);(focus(refine Xw hc (hk:=?_);refine Xm 9 hc (hk:=?_);refine Xz (hk:=?_);exact Xk [0,3,4] [40000])))))))
   repeat' (first|refine Wd ?_|(refine Wc ?_ ?_<;>intro hb<;>try simp at hb)|refine Wn ?_|fail)
   have e1:((c.toNat:Int)/16).toNat=c.toNat/16:=by omega
   have e2:((c.toNat:Int)%16).toNat=c.toNat%16:=by omega
   refine⟨(j+3,m++[37,DQ (c.toNat/16),DQ (c.toNat%16)]),⟨qH,g4,by rw[h3,e];simp,qH⟩,qH,aC [0,3,4] [40000] qA qA (by simp[DQ,hi,lo,e1,e2];omega)⟩
end Go.Proofs.YtdjfgcjlnfnfhaaGreatDoor
namespace Go.Proofs.YtdjfgcjlnfnfhaaGreatDoor
open Go.Lw
set_option maxRecDepth 100000
set_option maxHeartbeats 1000000
theorem NK {p:UInt8→Prop} (h: ∀n:Fin 256,p (UInt8.ofNat n.val)) (c:UInt8):p c:=by
 have h2:=h ⟨c.toNat,c.toNat_lt⟩
 simpa using h2
inductive NR:Bs→Prop where
 |nil:NR []
 |VL (c:UInt8) (r:Bs) (h: ¬c=37) (t:NR r):NR (c::r)
 |pct (c:UInt8) (r:Bs) (h:pN c=false) (t:NR r):NR (37::DQ (c.toNat/16)::DQ (c.toNat%16)::r)
theorem NR.append {x y:Bs} (h:NR x) (hy:NR y):NR (x++y):=by
 induction h with
 |nil=>exact hy
 |VL c r h t ih=>exact .VL c _ h ih
 |pct c r h t ih=>exact .pct c _ h ih
theorem AG (P:List Bs) (q:Bs→Prop) (h0:q []) (hP: ∀j:Nat,¬P[j]?.getD []=[46]→ ¬P[j]?.getD []=[46,46]→q (P[j]?.getD [])): ∀j,∀x∈l9 P j,q x
 |0,x,h=>by simp[l9]at h
 |j+1,x,h=>by
  have ih:=AG P q h0 hP j
  simp only[l9,nQ]at h
  split at h
  ·split at h
   ·rcases List.mem_append.1 h with h|h
    ·exact ih x (List.mem_of_mem_take h)
    ·rw[show x=[]by simpa using h];exact h0
   ·exact ih x (List.mem_of_mem_take h)
  ·rename_i n1
   split at h
   ·split at h
    ·rcases List.mem_append.1 h with h|h
     ·exact ih x h
     ·rw[show x=[]by simpa using h];exact h0
    ·exact ih x h
   ·rename_i n2
    rcases List.mem_append.1 h with h|h
    ·exact ih x h
    ·rw[show x=_ by simpa using h];exact hP j n2 n1
theorem JY (P:List Bs) (h:1≤P.length):l9 P P.length≠[]:=by
 obtain⟨n,hn⟩: ∃n,P.length=n+1:=⟨P.length-1,qD⟩
 rw[hn]
 simp only[l9,nQ,hn,decide_true,if_true]
 repeat' split
 all_goals simp
theorem GX (s:Bs):gD s=[]∧s=[]∨ ∃L:List Bs,L≠[]∧gD s=47::Lib.join L [47]∧(∀x∈L,(47:UInt8)∉x∧ ¬x=[46]∧ ¬x=[46,46])∧ ∀q:Bs→Prop,q []→(∀x∈Lib.split (s.drop 1) [47],q x)→ ∀x∈L,q x:=by
 by_cases h0:s=[]
 ·left;exact⟨by unfold gD;rw[if_pos h0],h0⟩
 right
 have hmem: ∀(P:List Bs) (q:Bs→Prop),q []→(∀x∈P,q x)→ ∀j:Nat,q (P[j]?.getD []):=by
  intro P q hq hP j
  rcases Nat.lt_or_ge j P.length with hj|hj
  ·rw[List.getElem?_eq_getElem hj];exact hP _ (List.getElem_mem hj)
  ·rw[List.getElem?_eq_none hj];exact hq
 have hfree:=It 47 (s.drop 1)
 have hne:=gM 47 (s.drop 1)
 refine⟨l9 (Lib.split (s.drop 1) [47]) (Lib.split (s.drop 1) [47]).length,JY _ (List.length_pos_iff.2 hne),by unfold gD;rw[if_neg h0],?_,?_⟩
 ·refine AG _ (fun x=>(47:UInt8)∉x∧ ¬x=[46]∧ ¬x=[46,46]) qK (fun j n1 n2=>⟨?_,n1,n2⟩) _
  exact hmem _ (fun x=>(47:UInt8)∉x) qE hfree j
 ·intro q hq hP
  exact AG _ q hq (fun j _ _=>hmem _ q hq hP j) _
theorem Lo (c:UInt8):(rX c).length≤3:=by unfold rX;split<;>simp
theorem kK: ∀s:Bs,(fA s).length≤s.length
 |[]=>by simp[fA]
 |c::r=>by
  rw[fA.eq_def]
  simp only
  split
  ·match r with
   |[]=>simp
   |[_]=>simp
   |h::k::r2=>
    have h1:=kK r2
    have h2:=Lo (two h k)
    simp only[List.length_append,List.length_cons]
    omega
  ·have:=kK r
   simp only[List.length_cons]
   omega
def wt (L:List Bs):Nat:=(L.map fun x=>x.length+1).sum
theorem wJ (L M:List Bs):wt (L++M)=wt L+wt M:=by simp[wt]
theorem P9 (L:List Bs) (k:Nat):wt (L.take k)≤wt L:=by
 have:wt L=wt (L.take k)+wt (L.drop k):=by rw[←wJ,List.take_append_drop]
 omega
theorem DS: ∀L:List Bs,L≠[]→(Lib.join L [47]).length+1=wt L
 |[],h=>absurd rfl h
 |[x],_=>by rw[Lib.join_one];simp[wt]
 |x::y::L,_=>by
  have:=DS (y::L) qE
  rw[mR]
  simp only[wt,List.map_cons,List.sum_cons,List.length_append,List.length_cons,List.length_nil]at this⊢
  omega
theorem JZ (P:List Bs): ∀j,j≤P.length→wt (l9 P j)≤wt (P.take j)
 |0,_=>by simp[l9,wt]
 |j+1,hj=>by
  have ih:=JZ P j qD
  have e:P.take (j+1)=P.take j++[P[j]?.getD []]:=by
   rw[List.take_add_one,List.getElem?_eq_getElem qD];rfl
  rw[e,wJ]
  have ht:=P9 (l9 P j) ((l9 P j).length-1)
  have h1:wt [([]:Bs)]=1:=rfl
  have h2:wt [P[j]?.getD []]=(P[j]?.getD []).length+1:=by simp[wt]
  simp only[l9,nQ]
  split
  ·split
   ·rw[wJ];omega
   ·omega
  ·split
   ·split
    ·rw[wJ];omega
    ·omega
   ·rw[wJ];omega
theorem wK (s:Bs):(gD s).length≤s.length:=by
 unfold gD
 split
 ·simp
 ·rename_i h0
  have hne:=gM 47 (s.drop 1)
  have hj:=nN 47 (s.drop 1)
  generalize Lib.split (s.drop 1) [47]=P at hne hj
  have h1:=JZ P P.length (Nat.le_refl _)
  rw[List.take_length]at h1
  have h2:=DS (l9 P P.length) (JY P (List.length_pos_iff.2 hne))
  have h3:=DS P hne
  rw[hj,List.length_drop]at h3
  have:0<s.length:=List.length_pos_iff.2 h0
  simp only[List.length_cons]
  omega
def AH (sc p:Bs):Bs:=if(sc=[104,116,116,112]∧p=[56,48])∨(sc=[104,116,116,112,115]∧p=[52,52,51])then[]else p
def AJ (p:Bs):Bs:=if gD (fA p)=[]then[47]else gD (fA p)
def bQ (a:Adr):Adr:=⟨small a.scheme,small a.host,AH (small a.scheme) (a.port.dropWhile fun c=>decide (c=48)),AJ a.path,fA a.query,a.eI,[],false⟩
theorem VM {p:Bs} (h:isRow [63] p):isRow [] p:=by
 unfold isRow at h⊢
 exact Am (w:=[63]) (w2:=[]) (by intro c hc;simp at hc) (.inl rfl) p h |> fun e=>by simpa using e
theorem GY (p:Bs):(AJ p).length≤p.length+1:=by
 have h1:=kK p
 have h2:=wK (fA p)
 unfold AJ
 split
 ·simp
 ·omega
end Go.Proofs.YtdjfgcjlnfnfhaaGreatDoor
namespace Go.Proofs.YtdjfgcjlnfnfhaaGreatDoor
open Go.Lw Go.RowKit
set_option maxRecDepth 100000
set_option maxHeartbeats 4000000
theorem J0 {b:Adr} {s:Bs} (h:(mA b s).2=0):(mA b s).1.Fits:=by
 unfold mA at h⊢
 split at h
 ·rename_i h1;exact absurd h h1
 ·split at h
  ·cases h
  ·rename_i h1 h2
   rw[if_neg h1,if_neg h2]
   generalize ND b (nU s)=x at h⊢
   unfold DN at h⊢
   split at h
   ·rename_i h3;exact absurd h h3
   ·split at h
    ·rename_i h3;exact absurd h h3
    ·rename_i h3 h4
     rw[if_neg h3,if_neg h4]
     have hF:=pM (b:=x.1) (by simpa using h4)
     exact⟨hF.scheme,hF.host,hF.port,by have:=wK x.1.path;have:=hF.path;simp only;omega,hF.query,hF.dH⟩
theorem Lr (b:Adr) (s:Bs) (hb:b.Fits) (hs:s.length≤1000000):aV Tryz.prog 169 [dI b,str s] (fun d=> ∃(a:Adr) (e:Nat),d= .tup [dI a,int e]∧(e=0→a.Fits)):=
 ⟨_,⟨_,_,rfl,J0⟩,sS b s hb qD⟩
theorem Ta (n:Nat) (f:Nat→Int) (hn:n≤1000000) (v:Int):aV Tryz.prog 300 [.sl n fun i=>[int (f i)],int v] (IsF fun _=>True):=by
 refine bI Tryz.func300 rfl qC Tryz.ntmps300 _ rfl qE ?_
 repeat' (first|refine Va ?_|(with_reducible refine aB (ht:=fun hb=>?_) (hf:=fun hb=>?_)<;>(try simp at hb))|refine Vb ?_|refine Vl (hG:=?_)|fail)
 refine vU [0,1,7,8] [] 8 n ?_
 intro L hL j hj ih
 by_cases hjn:j<n
 ·repeat' (first|refine Va ?_|(with_reducible refine aB (ht:=fun hb=>?_) (hf:=fun hb=>?_)<;>(try simp at hb))|refine Vb ?_|refine Vl (hG:=?_)|fail)
  all_goals try(exfalso;omega)
  all_goals first|exact⟨_,rfl,trivial⟩|exact Vk [0,1,7,8] [] hL (ih (j+1) qD qD)
 ·repeat' (first|refine Va ?_|(with_reducible refine aB (ht:=fun hb=>?_) (hf:=fun hb=>?_)<;>(try simp at hb))|refine Vb ?_|refine Vl (hG:=?_)|fail)
  all_goals try(exfalso;omega)
  exact⟨_,rfl,trivial⟩
theorem Tb (n:Nat) (f:Nat→Int) (hn:n≤1000000) (v:Int):aV Tryz.prog 226 [.sl n fun i=>[int (f i)],int v] (IsB fun _=>True):=by
 refine bI Tryz.func226 rfl qC Tryz.ntmps226 _ rfl qE ?_
 repeat' (first|refine Va ?_|(with_reducible refine aB (ht:=fun hb=>?_) (hf:=fun hb=>?_)<;>(try simp at hb))|refine Vb ?_|refine Vl (hG:=?_)|(refine Ve (hf:=Ta n f hn v) (hk:=?_);rintro _ ⟨k,rfl,_⟩)|fail)
 exact⟨_,rfl,trivial⟩
def WV:List Int:=[301,302,303,307,308]
theorem VN (n:Int):aV Tryz.prog 226 [.sl 5 fun i=>[[int 301],[int 302],[int 303],[int 307],[int 308]][i]?.getD [int 0],int n] (IsB fun _=>True):=by
 have e:(D.sl 5 fun i=>[[int 301],[int 302],[int 303],[int 307],[int 308]][i]?.getD [int 0])= .sl 5 fun i=>[int (WV[i]?.getD 0)]:=by
  congr 1
  funext i
  match i with
  |0|1|2|3|4=>rfl
  |n+5=>rfl
 rw[e]
 exact Tb 5 _ qD n
theorem Ra (st:Int) (rs:Bs) (K:List (Bs×Bs)) (nb:Nat) (gb:Nat→UInt8) (hK:iO K) (b:Adr) (hF:b.Fits):aV Tryz.prog 152 [v7 st rs K nb gb,dI b] (fun d=> ∃(a:Adr) (t:Bool),d= .tup [dI a,tru t]∧(t=true→a.Fits)):=by
 refine bI Tryz.func152 rfl qC Tryz.ntmps152 _ rfl qE ?_
 repeat' (first|refine Va ?_|(with_reducible refine aB (ht:=fun hb=>?_) (hf:=fun hb=>?_)<;>(try simp at hb))|refine Vn ?_|refine Vl (hG:=?_)|(refine Vf (hf:=VN st) (hfl:=?_) (hk:=?_)<;>rintro _ ⟨c,rfl,_⟩;(·rfl))|(refine Ve (hf:=JH _ _ _ hK.hd _) (hk:=?_);rintro _ ⟨v,ok,rfl,hv,_⟩)|(refine Ve (hf:=Lr b v hF hv) (hk:=?_);rintro _ ⟨a,e,rfl,ha⟩)|refine Vc (hf:=by exact eL a (ha qD)) (h:=?_)|fail)
 all_goals try exact⟨Adr.zero,false,rfl,qE⟩
 ·have h:=ha qD
  refine aQ (by
   intro r C hc hh
   refine bA (aG [2,3,4,5,8] [2,3,4,8] qA qA) ?_
   (apply Xd 8 hc;(focus(refine Xp 0 hc (hk:=?_);refine Xp 2 hc (hk:=?_);refine aI 1 [1,4,5,6,7] hc rfl qC rfl qA qF qE qA ?_;refine Xp 4 hc (hk:=?_);refine Xa [3,5] (hx:=?_);refine⟨?_,?_⟩;(focus(refine Xw hc (hk:=?_);refine Xa [5] (hx:=?_);(focus(refine Xw hc (hk:=?_);refine Xp 6 hc (hk:=?_);refine Xa [7] (hx:=?_);(focus(refine Xw hc (hk:=?_);refine Xz (hk:=?_);exact Xk [2,3,4,5,8] [2,3,4,8]))))));(focus(refine Xw hc (hk:=?_);refine aI 3 [3,6,7] hc rfl qC rfl qA qF qE qA ?_;refine Xp 6 hc (hk:=?_);refine Xa [7] (hx:=?_);(focus(refine Xw hc (hk:=?_);refine Xz (hk:=?_);exact Xb [2,3,4,5,8] [2,3,4,8])))))))
   exact hh.get) ?_
  have h2:({a with dH:=b.dH,fK:=b.fK}:Adr).Fits:=⟨h.scheme,h.host,h.port,h.path,h.query,hF.dH⟩
  repeat' (first|refine Va ?_|(with_reducible refine aB (ht:=fun hb=>?_) (hf:=fun hb=>?_)<;>(try simp at hb))|refine Vn ?_|refine Vl (hG:=?_)|refine Vc (hf:=by exact eL {a with dH:=b.dH,fK:=b.fK} h2) (h:=?_)|fail)
  ·exact⟨Adr.zero,false,rfl,qE⟩
  ·exact⟨{a with dH:=b.dH,fK:=b.fK},true,rfl,fun _=>h2⟩
 ·exact⟨a,true,rfl,fun _=>ha qD⟩
theorem IK (st:Int) (rs:Bs) (K:List (Bs×Bs)) (nb:Nat) (gb:Nat→UInt8) (hrs:rs.length≤1000000) (hK:iO K) (b:Adr) (hF:b.Fits):aV Tryz.prog 91 [v7 st rs K nb gb,dI b] (fun d=> ∃(a:Adr) (t t2:Bool) (e:Int),d= .tup [dI a,tru t,tru t2,int e]∧(t=true→a.Fits)):=by
 refine bI Tryz.func91 rfl qC Tryz.ntmps91 _ rfl qE ?_
 repeat' (first|refine Va ?_|(with_reducible refine aB (ht:=fun hb=>?_) (hf:=fun hb=>?_)<;>(try simp at hb))|refine Vn ?_|refine Vl (hG:=?_)|(refine Ve (hf:=Ay _ _ _ _ _ hrs hK) (hk:=?_);rintro _ ⟨f,rfl,_⟩)|refine Vc (hf:=by exact eL b hF) (h:=?_)|(refine Ve (hf:=Ra st rs K nb gb hK b hF) (hk:=?_);rintro _ ⟨a,t,rfl,ha⟩)|fail)
 ·exact⟨Adr.zero,false,false,_,rfl,qE⟩
 ·exact⟨Adr.zero,false,false,_,rfl,qE⟩
 cases t
 ·refine aQ (by
   intro r C hc hh
   refine bA (aG [2,4,10,11] [2,4,10] qA qA) ?_
   (apply Xd 17 hc;(focus(refine Xm 1 hc (hk:=?_);refine Xm 2 hc (hk:=?_);refine Xm 3 hc (hk:=?_);refine Xg 4 hc (hk:=?_);refine Xa [0,5] (hx:=?_);refine⟨?_,?_⟩;(focus(refine Xw hc (hk:=?q80);refine Xa [5] (hx:=?nq80);(focus(refine Xw hc (hk:=?q81);refine Xg 6 hc (hk:=?nq81);refine Xg 7 hc (hk:=?_);refine Xg 8 hc (hk:=?_);refine Xa [9,13] (hx:=?_);refine⟨?_,?_⟩;(focus(refine Xw hc (hk:=?q82);refine Xg 10 hc (hk:=?nq82);refine Xg 11 hc (hk:=?_);refine Xp 12 hc (hk:=?_);refine Xa [13] (hx:=?_);(focus(refine Xw hc (hk:=?q83);refine Xm 14 hc (hk:=?nq83);refine Xm 15 hc (hk:=?_);refine Xm 16 hc (hk:=?_);refine Xz (hk:=?_);exact Xk [4,5,6,7] [4]))));(focus(refine Xw hc (hk:=?q84);refine Xm 14 hc (hk:=?nq84);refine Xa [9] (hx:=?_);(focus(refine Xw hc (hk:=?q85);refine Xg 10 hc (hk:=?nq85);refine Xg 11 hc (hk:=?_);refine Xp 12 hc (hk:=?_);refine Xm 15 hc (hk:=?_);refine Xm 16 hc (hk:=?_);refine Xz (hk:=?_);exact Xb [4,5,6,7] [4]))))))));(focus(refine Xw hc (hk:=?q86);refine Xg 6 hc (hk:=?nq86);refine Xg 7 hc (hk:=?_);refine Xg 8 hc (hk:=?_);refine Xa [0,9] (hx:=?_);refine⟨?_,?_⟩;(focus(refine Xw hc (hk:=?q87);refine Xa [9,13] (hx:=?nq87);refine⟨?_,?_⟩;(focus(refine Xw hc (hk:=?_);exact Xq ?q82));(focus(refine Xw hc (hk:=?_);exact Xq ?q84))));(focus(refine Xw hc (hk:=?q88);refine Xg 10 hc (hk:=?nq88);refine Xg 11 hc (hk:=?_);refine Xp 12 hc (hk:=?_);refine aI 0 [0,13,14,15,16] hc rfl qC rfl qA qF qE qA ?_;refine Xa [13] (hx:=?_);(focus(refine Xw hc (hk:=?_);exact Xq ?q83)))))))))
   exact hh.get) ?_
  repeat' (first|refine Va ?_|(with_reducible refine aB (ht:=fun hb=>?_) (hf:=fun hb=>?_)<;>(try simp at hb))|refine Vn ?_|refine Vl (hG:=?_)|fail)
  exact⟨a,false,_,_,rfl,qE⟩
 ·by_cases h3:st=301
  ·subst h3
   refine aQ (by
    intro r C hc hh
    refine bA (aG [2,4,10,11] [2,4,10] qA qA) ?_
    (apply Xd 17 hc;(focus(refine Xm 1 hc (hk:=?_);refine Xm 2 hc (hk:=?_);refine Xm 3 hc (hk:=?_);refine Xg 4 hc (hk:=?_);refine Xa [0,5] (hx:=?_);refine⟨?_,?_⟩;(focus(refine Xw hc (hk:=?qb80);refine Xa [5] (hx:=?nqb80);(focus(refine Xw hc (hk:=?qb81);refine Xg 6 hc (hk:=?nqb81);refine Xg 7 hc (hk:=?_);refine Xg 8 hc (hk:=?_);refine Xa [9,13] (hx:=?_);refine⟨?_,?_⟩;(focus(refine Xw hc (hk:=?qb82);refine Xg 10 hc (hk:=?nqb82);refine Xg 11 hc (hk:=?_);refine Xp 12 hc (hk:=?_);refine Xa [13] (hx:=?_);(focus(refine Xw hc (hk:=?qb83);refine Xm 14 hc (hk:=?nqb83);refine Xm 15 hc (hk:=?_);refine Xm 16 hc (hk:=?_);refine Xz (hk:=?_);exact Xk [4,5,6,7] [4]))));(focus(refine Xw hc (hk:=?qb84);refine Xm 14 hc (hk:=?nqb84);refine Xa [9] (hx:=?_);(focus(refine Xw hc (hk:=?qb85);refine Xg 10 hc (hk:=?nqb85);refine Xg 11 hc (hk:=?_);refine Xp 12 hc (hk:=?_);refine Xm 15 hc (hk:=?_);refine Xm 16 hc (hk:=?_);refine Xz (hk:=?_);exact Xb [4,5,6,7] [4]))))))));(focus(refine Xw hc (hk:=?qb86);refine Xg 6 hc (hk:=?nqb86);refine Xg 7 hc (hk:=?_);refine Xg 8 hc (hk:=?_);refine Xa [0,9] (hx:=?_);refine⟨?_,?_⟩;(focus(refine Xw hc (hk:=?qb87);refine Xa [9,13] (hx:=?nqb87);refine⟨?_,?_⟩;(focus(refine Xw hc (hk:=?_);exact Xq ?qb82));(focus(refine Xw hc (hk:=?_);exact Xq ?qb84))));(focus(refine Xw hc (hk:=?qb88);refine Xg 10 hc (hk:=?nqb88);refine Xg 11 hc (hk:=?_);refine Xp 12 hc (hk:=?_);refine aI 0 [0,13,14,15,16] hc rfl qC rfl qA qF qE qA ?_;refine Xa [13] (hx:=?_);(focus(refine Xw hc (hk:=?_);exact Xq ?qb83)))))))))
    exact hh.get) ?_
   repeat' (first|refine Va ?_|(with_reducible refine aB (ht:=fun hb=>?_) (hf:=fun hb=>?_)<;>(try simp at hb))|refine Vn ?_|refine Vl (hG:=?_)|fail)
   exact⟨a,true,_,_,rfl,ha⟩
  ·have h4:(st==301)=false:=by simpa using h3
   refine aQ (by
    intro r C hc hh
    refine bA (aG [2,4,10,11] [2,4,10] qA qA) ?_
    (apply Xd 17 hc;(focus(refine Xm 1 hc (hk:=?_);refine Xm 2 hc (hk:=?_);refine Xm 3 hc (hk:=?_);refine Xg 4 hc (hk:=?_);refine Xa [0,5] (hx:=?_);refine⟨?_,?_⟩;(focus(refine Xw hc (hk:=?qc80);refine Xa [5] (hx:=?nqc80);(focus(refine Xw hc (hk:=?qc81);refine Xg 6 hc (hk:=?nqc81);refine gA (by simp only[h4];rfl) ?_;refine Xg 7 hc (hk:=?_);refine Xg 8 hc (hk:=?_);refine Xa [9,13] (hx:=?_);refine⟨?_,?_⟩;(focus(refine Xw hc (hk:=?qc82);refine Xg 10 hc (hk:=?nqc82);refine Xg 11 hc (hk:=?_);refine Xp 12 hc (hk:=?_);refine Xa [13] (hx:=?_);(focus(refine Xw hc (hk:=?qc83);refine Xm 14 hc (hk:=?nqc83);refine Xm 15 hc (hk:=?_);refine Xm 16 hc (hk:=?_);refine Xz (hk:=?_);exact Xk [4,5,6,7] [4]))));(focus(refine Xw hc (hk:=?qc84);refine Xm 14 hc (hk:=?nqc84);refine Xa [9] (hx:=?_);(focus(refine Xw hc (hk:=?qc85);refine Xg 10 hc (hk:=?nqc85);refine Xg 11 hc (hk:=?_);refine Xp 12 hc (hk:=?_);refine Xm 15 hc (hk:=?_);refine Xm 16 hc (hk:=?_);refine Xz (hk:=?_);exact Xb [4,5,6,7] [4]))))))));(focus(refine Xw hc (hk:=?qc86);refine Xg 6 hc (hk:=?nqc86);refine gA (by simp only[h4];rfl) ?_;refine Xg 7 hc (hk:=?_);refine Xg 8 hc (hk:=?_);refine Xa [0,9] (hx:=?_);refine⟨?_,?_⟩;(focus(refine Xw hc (hk:=?qc87);refine Xa [9,13] (hx:=?nqc87);refine⟨?_,?_⟩;(focus(refine Xw hc (hk:=?_);exact Xq ?qc82));(focus(refine Xw hc (hk:=?_);exact Xq ?qc84))));(focus(refine Xw hc (hk:=?qc88);refine Xg 10 hc (hk:=?nqc88);refine Xg 11 hc (hk:=?_);refine Xp 12 hc (hk:=?_);refine aI 0 [0,13,14,15,16] hc rfl qC rfl qA qF qE qA ?_;refine Xa [13] (hx:=?_);(focus(refine Xw hc (hk:=?_);exact Xq ?qc83)))))))))
    exact hh.get) ?_
   repeat' (first|refine Va ?_|(with_reducible refine aB (ht:=fun hb=>?_) (hf:=fun hb=>?_)<;>(try simp at hb))|refine Vn ?_|refine Vl (hG:=?_)|fail)
   exact⟨a,true,_,_,rfl,ha⟩
end Go.Proofs.YtdjfgcjlnfnfhaaGreatDoor
namespace Go.Proofs.YtdjfgcjlnfnfhaaGreatDoor
open Go.Lw Go.RowKit Go.ChangeShapes Go.WideShapes Go.ChangeAt
set_option maxRecDepth 100000
set_option maxHeartbeats 1000000
def GZ:Prop:= ∀a:Adr,bX a=0→aJ Tryz.prog 74 [dI a] (dI (bQ a))
def eF (a:Adr):Adr×Nat:=if bX a≠0 then(Adr.zero,bX a)else if bX (bQ a)≠0 then(Adr.zero,bX (bQ a))else(bQ a,0)
theorem G0 (a:Adr):a.path.length≤(dF a).length∧a.scheme.length≤(dF a).length∧a.host.length≤(dF a).length∧(eK a).length≤(dF a).length:=by
 have:(dF a).length=a.scheme.length+3+a.host.length+(eK a).length+(a.path.length+(eV a).length+(mP a).length):=by simp[dF,gU];omega
 omega
theorem Cx {a:Adr} (h:bX a=0):(bQ a).Fits:=by
 have hf:=pM h
 have h1:=GY a.path
 have h2:=kK a.query
 have h3:(AH (small a.scheme) (a.port.dropWhile fun c=>decide (c=48))).length≤a.port.length:=by
  have:=(List.dropWhile_suffix (l:=a.port) fun c=>decide (c=48)).length_le
  unfold AH
  split
  ·simp
  ·exact this
 have hp:=(G0 a).1
 have hl:=((kC a).1 h).2
 obtain⟨k1,k2,k3,k4,k5,k6⟩:=hf
 exact⟨by simp[bQ,small];omega,by simp[bQ,small];omega,QW,QW,QW,by simp[bQ]⟩
theorem nW (hN:GZ) (a:Adr) (hf:a.Fits):aJ Tryz.prog 32 [dI a] (.tup [dI (eF a).1,int (eF a).2]):=by
 refine aW Tryz.func32 rfl qC Tryz.ntmps32 _ rfl qE fun C hc=>?_
 have hC:=eL a hf
 unfold eF
 by_cases h1:bX a=0
 rotate_left
 ·rw[if_pos h1]
  repeat' (first|refine Wd ?_|(refine Wc ?_ ?_<;>intro hb<;>try simp at hb)|refine Zw hc (hf:=qV) (hk:=?_)|refine Zq hc (hf:=qV) (hk:=?_)|refine Wn ?_|fail)
  all_goals try contradiction
  (refine Zl hc (hr:=?_))
  simp
 rw[if_neg (fun h=>h h1)]
 rw[h1]at hC
 have hNa:=hN a h1
 have hC2:=eL (bQ a) (Cx h1)
 generalize bQ a=b at hNa hC2
 by_cases h2:bX b=0
 ·rw[if_neg (fun h=>h h2)]
  rw[h2]at hC2
  repeat' (first|refine Wd ?_|(refine Wc ?_ ?_<;>intro hb<;>try simp at hb)|refine Zw hc (hf:=QL) (hk:=?_)|refine Zq hc (hf:=QL) (hk:=?_)|refine Wn ?_|fail)
  all_goals try contradiction
  (refine Zl hc (hr:=?_))
  simp
 ·rw[if_pos h2]
  repeat' (first|refine Wd ?_|(refine Wc ?_ ?_<;>intro hb<;>try simp at hb)|refine Zw hc (hf:=QL) (hk:=?_)|refine Zq hc (hf:=QL) (hk:=?_)|refine Wn ?_|fail)
  all_goals try contradiction
  (refine Zl hc (hr:=?_))
  simp
end Go.Proofs.YtdjfgcjlnfnfhaaGreatDoor
namespace Go.Proofs.YtdjfgcjlnfnfhaaGreatDoor
open Go.Lw
set_option maxRecDepth 100000
set_option maxHeartbeats 1000000
theorem nX: ∀u:Bs,a7 [] u=(u.length,true)→ ∀c∈u,oM c=false
 |[],_,c,hc=>by cases hc
 |b::r,h,c,hc=>by
  rw[a7.eq_def]at h
  simp only at h
  rw[if_neg (show¬([]:Bs).contains b=true by simp)]at h
  by_cases h2:oM b=true
  ·rw[if_pos h2]at h;simp at h
  rw[if_neg h2]at h
  have hb:oM b=false:=by simpa using h2
  by_cases h3:b=37
  ·rw[if_pos h3]at h
   match r,h,hc with
   |[],h,hc=>simp at h
   |[_],h,hc=>simp at h
   |x::y::r2,h,hc=>
    simp only at h
    by_cases h4:bR x=true∧bR y=true
    ·rw[if_pos h4]at h
     have h5:a7 [] r2=(r2.length,true):=by
      have e1:=congrArg Prod.fst h
      have e2:=congrArg Prod.snd h
      simp only[List.length_cons]at e1 e2
      exact Prod.ext qI e2
     rcases List.mem_cons.1 hc with rfl|hc
     ·exact hb
     rcases List.mem_cons.1 hc with rfl|hc
     ·exact(JN h4.1).1
     rcases List.mem_cons.1 hc with rfl|hc
     ·exact(JN h4.2).1
     ·exact nX r2 h5 c hc
    ·rw[if_neg h4]at h;simp at h
  ·rw[if_neg h3]at h
   have h5:a7 [] r=(r.length,true):=by
    have e1:=congrArg Prod.fst h
    have e2:=congrArg Prod.snd h
    simp only[List.length_cons]at e1 e2
    exact Prod.ext qI e2
   rcases List.mem_cons.1 hc with rfl|hc
   ·exact hb
   ·exact nX r h5 c hc
theorem Ls {w:Bs} (hw: ∀c,w.contains c=true→bR c=false) {s:Bs} (h:isRow w s):(∀c∈s,oM c=false)∧(∀c∈s,w.contains c=false):=by
 unfold isRow at h
 have h1:=sM hw s
 rw[h]at h1
 have hle:=j9 [] (s.takeWhile (nw w))
 rw[←h1]at hle
 have hpre:=List.takeWhile_prefix (l:=s) (nw w)
 have hu:s.takeWhile (nw w)=s:=hpre.eq_of_length_le hle
 rw[hu]at h1
 refine⟨nX s h1.symm,fun c hc=>?_⟩
 rw[←hu]at hc
 have:=List.all_eq_true.1 (List.all_takeWhile (l:=s) (p:=nw w)) c hc
 unfold nw at this
 simpa using this
theorem DT (a:Adr):(dF a).length=a.scheme.length+3+a.host.length+(eK a).length+(a.path.length+(eV a).length+(mP a).length):=by simp[dF,gU];omega
theorem wL (c:UInt8) (s:Bs): ∀x∈Lib.split s [c],∀b∈x,b∈s:=by
 generalize hn:s.length=n
 induction n using Nat.strongRecOn generalizing s with
 |_ n ih=>
  rcases vY c s with h|⟨x,y,rfl,h⟩
  ·rw[jE c s h]
   intro x hx b hb
   rw[show x=s by simpa using hx]at hb
   exact hb
  ·rw[kJ c x y h]
   intro z hz b hb
   simp at hn
   cases hz with
   |head=>simp[hb]
   |tail _ hz=>have:=ih y.length qD y rfl z hz b hb;simp[this]
theorem AK (c:UInt8): ∀(L:List Bs) (b:UInt8),b∈Lib.join L [c]→b=c∨ ∃x∈L,b∈x
 |[],b,h=>by simp[Lib.join_nil]at h
 |[x],b,h=>by rw[Lib.join_one]at h;exact .inr ⟨x,qE,h⟩
 |x::y::L,b,h=>by
  rw[mR]at h
  rcases List.mem_append.1 h with h|h
  ·rcases List.mem_append.1 h with h|h
   ·exact .inr ⟨x,qE,h⟩
   ·exact .inl q8
  ·rcases AK c (y::L) b h with h|⟨z,hz,hb⟩
   ·exact .inl h
   ·exact .inr ⟨z,List.mem_cons_of_mem _ hz,hb⟩
theorem AL (c:UInt8): ∀L:List Bs,L≠[]→(Lib.join L [c]).length+1=wt L
 |[],h=>absurd rfl h
 |[x],_=>by rw[Lib.join_one];simp[wt]
 |x::y::L,_=>by
  have:=AL c (y::L) qE
  rw[mR]
  simp only[wt,List.map_cons,List.sum_cons,List.length_append,List.length_cons,List.length_nil]at this⊢
  omega
def gO (s:Bs) (f t:UInt8):Bs:=Lib.join (Lib.split s [f]).reverse [t]
theorem Lt (s:Bs) (f t:UInt8) (h:t∉s):gO (gO s f t) t f=s:=by
 unfold gO
 rw[Ar t (Lib.split s [f]).reverse (by simpa using gM f s) (fun x hx hm=>h (wL f s x (List.mem_reverse.1 hx) t hm)),List.reverse_reverse,nN]
theorem Cy (s:Bs) (f t b:UInt8) (h:b∉s) (hb:b≠t):b∉gO s f t:=by
 intro hm
 rcases AK t _ b hm with e|⟨x,hx,hm⟩
 ·exact hb e
 ·exact h (wL f s x (List.mem_reverse.1 hx) b hm)
theorem IL (L:List Bs):wt L.reverse=wt L:=by
 induction L with
 |nil=>rfl
 |cons x L ih=>rw[List.reverse_cons,wJ,ih];simp[wt];omega
theorem pO (s:Bs) (f t:UInt8):(gO s f t).length=s.length:=by
 have h1:=AL t (Lib.split s [f]).reverse (by simpa using gM f s)
 have h2:=AL f (Lib.split s [f]) (gM f s)
 rw[nN]at h2
 rw[IL]at h1
 unfold gO
 omega
abbrev Sg:Bs:=[104,116,116,112]
abbrev iP:Bs:=[104,116,116,112,115]
def IM (n:Adr):Bs:=gO n.host 46 44++eK n++[41]++(if n.scheme=iP then[115]else[])++n.path++eV n
def IP (a:Adr):Bs:=IM (bQ a)
structure Sh (n:Adr):Prop where
 sch:n.scheme=Sg∨n.scheme=iP
 h41:(41:UInt8)∉n.host
 h44:(44:UInt8)∉n.host
 h58:(58:UInt8)∉n.host
 p41:(41:UInt8)∉n.port
 path: ∃r,n.path=47::r
 p63:(63:UInt8)∉n.path
 q:n.eI=false→n.query=[]
 f:n.dH=[]∧n.fK=false
def kD (s:Bs):Adr×Bool:=
 (⟨if[115] <+: (Lib.cut s [41]).2.1 then iP else Sg,gO (Lib.cut (Lib.cut s [41]).1 [58]).1 44 46,(Lib.cut (Lib.cut s [41]).1 [58]).2.1,
   (Lib.cut (kB (Lib.cut s [41]).2.1 [115]) [63]).1,(Lib.cut (kB (Lib.cut s [41]).2.1 [115]) [63]).2.1,(Lib.cut (kB (Lib.cut s [41]).2.1 [115]) [63]).2.2,[],false⟩,(Lib.cut (Lib.cut s [41]).1 [58]).2.2)
theorem Rb {n:Adr} (g:Sh n):kD (IM n)=(n,decide (n.port≠[])):=by
 obtain⟨sc,ho,po,pa,qu,hq,fr,hf⟩:=n
 obtain⟨hs,h41,h44,h58,p41,⟨r,hr⟩,p63,q,f1,f2⟩:=g
 simp only at*
 subst f1 f2
 have e0:IM ⟨sc,ho,po,pa,qu,hq,[],false⟩=(gO ho 46 44++eK ⟨sc,ho,po,pa,qu,hq,[],false⟩)++41::((if sc=iP then[115]else[])++pa++eV ⟨sc,ho,po,pa,qu,hq,[],false⟩):=by
  simp[IM]
 have n41:(41:UInt8)∉gO ho 46 44++eK ⟨sc,ho,po,pa,qu,hq,[],false⟩:=by
  intro hm
  rcases List.mem_append.1 hm with hm|hm
  ·exact Cy ho 46 44 41 h41 qK hm
  ·unfold eK at hm
   split at hm
   ·cases hm
   ·rcases List.mem_cons.1 hm with e|hm
    ·cases e
    ·exact p41 hm
 have c1:=y7 41 _ ((if sc=iP then[115]else[])++pa++eV ⟨sc,ho,po,pa,qu,hq,[],false⟩) n41
 rw[←e0]at c1
 have n58:(58:UInt8)∉gO ho 46 44:=Cy ho 46 44 58 h58 qK
 have c2:Lib.cut (gO ho 46 44++eK ⟨sc,ho,po,pa,qu,hq,[],false⟩) [58]=(gO ho 46 44,po,decide (po≠[])):=by
  unfold eK
  by_cases e:po=[]
  ·simp only
   rw[if_pos e,List.append_nil,Dw 58 _ n58,e]
   rfl
  ·simp only
   rw[if_neg e,y7 58 _ _ n58]
   simp[e]
 have c3: ∀t:Bs,Lib.cut (pa++eV ⟨sc,ho,po,pa,qu,hq,[],false⟩) [63]=(pa,qu,hq):=by
  intro _
  unfold eV
  cases hq with
  |true=>simp only[if_true];exact y7 63 _ _ p63
  |false=>simp only;rw[if_neg qK,List.append_nil,Dw 63 _ p63,q rfl]
 have hpre:[115] <+: ((if sc=iP then[115]else[])++pa++eV ⟨sc,ho,po,pa,qu,hq,[],false⟩)↔sc=iP:=by
  rcases hs with rfl|rfl
  ·rw[if_neg qK,hr]
   constructor
   ·intro h
    obtain⟨t,ht⟩:=h
    simp at ht
   ·intro h;exact absurd h qK
  ·rw[if_pos rfl];simp
 have hcut:kB ((if sc=iP then[115]else[])++pa++eV ⟨sc,ho,po,pa,qu,hq,[],false⟩) [115]=pa++eV ⟨sc,ho,po,pa,qu,hq,[],false⟩:=by
  unfold kB
  by_cases e:sc=iP
  ·rw[if_pos (hpre.2 e),if_pos e];simp
  ·rw[if_neg (fun h=>e (hpre.1 h)),if_neg e];simp
 unfold kD
 rw[c1]
 simp only
 rw[c2,hcut,c3 []]
 simp only
 rw[Lt ho 46 44 h44]
 rcases hs with rfl|rfl
 ·rw[if_neg (fun h=>absurd (hpre.1 h) qK)]
 ·rw[if_pos (hpre.2 rfl)]
theorem DU {s:Bs} (h:e7 s=true) (c:UInt8) (hc:bW c=false):c∉s:=by
 intro hm
 have:=List.all_eq_true.1 (Io h) c hm
 rw[hc]at this
 cases this
theorem AM {s:Bs} {c:UInt8} (h:c∉s) (hc: ¬(97≤c.toNat∧c.toNat≤122)):c∉small s:=by
 intro hm
 obtain⟨b,hb,e⟩:=List.mem_map.1 hm
 rw[tW e hc]at hb
 exact h hb
theorem wM: ∀s:Bs,(63:UInt8)∉s→(63:UInt8)∉fA s
 |[],_=>by simp[fA]
 |c::r,h=>by
  have hb: ∀c,(63:UInt8)∉rX c:=NK (p:=fun c=>(63:UInt8)∉rX c) qK
  have hr:(63:UInt8)∉r:=fun hm=>h (List.mem_cons_of_mem _ hm)
  have hc:(63:UInt8)≠c:=fun e=>h (by rw[e];simp)
  rw[fA.eq_def]
  simp only
  split
  ·match r,hr with
   |[],_=>simpa using hc
   |[_],hr=>simp at hr;simp[hr];exact hc
   |x::y::r2,hr=>
    have:=wM r2 (fun hm=>hr (by simp[hm]))
    simp only
    intro hm
    rcases List.mem_append.1 hm with hm|hm
    ·exact hb _ hm
    ·exact this hm
  ·intro hm
   rcases List.mem_cons.1 hm with e|hm
   ·exact hc e
   ·exact wM r hr hm
theorem IQ {s:Bs} (h:(63:UInt8)∉s):(63:UInt8)∉gD s:=by
 rcases GX s with⟨e,_⟩|⟨L,_,e,_,hq⟩
 ·rw[e];simp
 ·rw[e]
  intro hm
  have hL:=hq (fun x=>(63:UInt8)∉x) qE (fun x hx hm=>h (List.mem_of_mem_drop (wL 47 (s.drop 1) x hx 63 hm)))
  rcases List.mem_cons.1 hm with e|hm
  ·cases e
  ·rcases AK 47 L 63 hm with e|⟨x,hx,hm⟩
   ·cases e
   ·exact hL x hx hm
theorem Re (p:Bs): ∃r,AJ p=47::r:=by
 unfold AJ
 split
 ·exact⟨[],rfl⟩
 ·rename_i h
  unfold gD at h⊢
  split
  ·rename_i e;rw[if_pos e]at h;exact absurd rfl h
  ·exact⟨_,rfl⟩
theorem Lu {a:Adr} (h:SO a):Sh (bQ a):=by
 have hw: ∀c,([63]:Bs).contains c=true→bR c=false:=by
  intro c hc
  have:c=63:=by simpa using hc
  rw[this];decide
 have hp:=(Ls hw h.path).2
 have hp63:(63:UInt8)∉a.path:=fun hm=>by have:=hp 63 hm;simp at this
 have hport: ∀c:UInt8,bE c=false→c∉a.port:=by
  intro c hc hm
  rcases h.port with e|e
  ·rw[e]at hm;cases hm
  ·have:=List.all_eq_true.1 (Gh e).2 c hm
   rw[hc]at this;cases this
 refine⟨h.sch,AM (DU h.host 41 qK) qK,AM (DU h.host 44 qK) qK,AM (DU h.host 58 qK) qK,?_,Re _,?_,?_,rfl,rfl⟩
 ·simp only[bQ,AH]
  split
  ·simp
  ·intro hm;exact hport 41 qK ((List.dropWhile_suffix _).mem hm)
 ·simp only[bQ,AJ]
  split
  ·decide
  ·exact IQ (wM _ hp63)
 ·simp only[bQ]
  intro hq
  have:a.query=[]:=Classical.byContradiction fun e=>by rw[h.eI e]at hq;cases hq
  rw[this];rfl
def ofK (s:Bs):Adr×Nat:=if 2000<s.length then(Adr.zero,2)else if((kD s).2=true∧(kD s).1.port=[])∨bX (kD s).1≠0∨IP (kD s).1≠s then(Adr.zero,10)else((kD s).1,0)
theorem Cz (s:Bs):((ofK s).2≠0∧(ofK s).1=Adr.zero)∨((ofK s).2=0∧s.length≤2000∧bX (ofK s).1=0∧bQ (ofK s).1=(ofK s).1∧IM (ofK s).1=s):=by
 unfold ofK
 by_cases h1:2000<s.length
 ·rw[if_pos h1];exact .inl ⟨qK,rfl⟩
 rw[if_neg h1]
 by_cases h2:((kD s).2=true∧(kD s).1.port=[])∨bX (kD s).1≠0∨IP (kD s).1≠s
 ·rw[if_pos h2];exact .inl ⟨qK,rfl⟩
 rw[if_neg h2]
 simp only[not_or,Classical.not_not]at h2
 have hg:=Lu ((kC _).1 h2.2.1).1
 have hd:=Rb hg
 have hk:IM (bQ (kD s).1)=s:=h2.2.2
 rw[hk]at hd
 have e:bQ (kD s).1=(kD s).1:=(congrArg Prod.fst hd).symm
 exact .inr ⟨rfl,qD,h2.2.1,e,by rw[e]at hk;exact hk⟩
def J1 (a:Adr):Bs×Nat:=if bX a≠0 then([],bX a)else if bX (bQ a)≠0 then([],bX (bQ a))else(IP a,0)
end Go.Proofs.YtdjfgcjlnfnfhaaGreatDoor
