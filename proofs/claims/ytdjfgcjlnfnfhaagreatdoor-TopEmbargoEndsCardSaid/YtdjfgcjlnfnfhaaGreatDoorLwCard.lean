/- A LAW's ROW THAT LISTS PACKAGE-LEVEL VARIABLES: from a contract to the row, with the world's shape at hand. -/
import Derived.Test.YtdjfgcjlnfnfhaaGreatDoorKeyE
import Derived.Test.YtdjfgcjlnfnfhaaGreatDoorAdA
import Derived.Test.YtdjfgcjlnfnfhaaGreatDoorTxB
import Derived.Test.YtdjfgcjlnfnfhaaGreatDoorKeyP
import Derived.Handed
import Derived.LaidLaws
import Derived.Lay
import Derived.LaidOnce
import Derived.SevenTiedAt
set_option linter.unusedSimpArgs false
set_option linter.unusedVariables false
namespace Go.Proofs.YtdjfgcjlnfnfhaaGreatDoor
open Go.Lw Go.RowKit
set_option maxRecDepth 100000
set_option maxHeartbeats 8000000
theorem OM (a:Adr) (R:List Rul):(OK a R).1.length≤20000000000:=by
 unfold OK
 split
 ·simp
 ·rename_i h1
  split
  ·simp
  ·split
   ·simp
   ·obtain⟨k1,k2,k3,k4⟩:=sT (Classical.not_not.1 h1)
    generalize bQ a=n at k1 k2 k3 k4⊢
    have hPl:=CU n.path R
    have hQl:=Bp n.query R qD
    have hXl:(CT n R).length≤2001:=by unfold CT;split<;>first|omega|(simp;omega)
    have htl:=pO (CT n R) 46 44
    have hp:(eK n).length≤2002:=by unfold eK;split<;>first|omega|(simp;done)|(simp;omega)
    have hs:(if n.scheme=iP∧(1,[])∉R then[115]else([]:Bs)).length≤1:=by split<;>simp
    have hq:(if n.eI=true then tB n.query R else[]).length≤10000300003:=by split<;>first|omega|(simp;done)|(simp;omega)
    simp only[OE,List.length_append,List.length_singleton]
    omega
theorem Mh (s:Sto) (hR:oE s.R):pR s:=fun a ha=>⟨_,⟨_,_,rfl,OM a s.R⟩,RS a s.R ha hR⟩
theorem RU (R:List (Int×Bs)) (hR:oE R):aV Tryz.prog 31 [DF R] (IsF fun e=>e=0→R.length≤50):=
 ⟨_,⟨_,rfl,fun h=>by
   unfold vA at h
   split at h
   ·cases h
   ·omega⟩,vB R (Kq hR) (OL hR)⟩
theorem ON:aJ Tryz.prog 5 [] (tru true):=by
 have hk:=NM ⟨[104,116,116,112],[97,46,98],[],[47,99],[],false,[],false⟩ (by constructor<;>decide)
 have e:J1 ⟨[104,116,116,112],[97,46,98],[],[47,99],[],false,[],false⟩=([98,44,97,41,47,99],0):=by decide+kernel
 rw[e]at hk
 refine aW Tryz.func5 rfl qC Tryz.ntmps5 _ rfl qE fun C hc=>?_
 repeat' (first|refine Wd ?_|(refine Wc ?_ ?_<;>intro hb<;>try simp at hb)|refine Zw hc (hf:=by exact hk) (hk:=?_)|refine Zq hc (hf:=by exact hk) (hk:=?_)|refine Wo ?_|fail)
 (refine Zl hc (hr:=?_))
 simp
theorem RV (K:List Bs) (hK:K.length≤1000000):aJ Tryz.prog 23 [ksD K,ksD K] (tru true):=by
 refine aW Tryz.func23 rfl qC Tryz.ntmps23 _ rfl qE fun C hc=>?_
 repeat' (first|refine Wd ?_|(refine Wc ?_ ?_<;>intro hb<;>try simp at hb)|refine Wm ?_|fail)
 all_goals try contradiction
 refine aN (fun i:Nat=>⟨[(0,.d (ksD K)),(1,.d (ksD K)),(12,.d (int K.length)),(13,.d (int i))],[]⟩) (fun i=>i≤K.length) (fun i=>K.length-i) 0 qE (aG [0,1,12,13] [] qA qA) ?_
 intro i hi
 by_cases h:i<K.length
 ·repeat' (first|refine Wd ?_|(refine Wc ?_ ?_<;>intro hb<;>try simp at hb)|refine Wo ?_|fail)
  all_goals try contradiction
  all_goals try(exfalso;omega)
  exact⟨i+1,qD,qD,aC [0,1,12,13] [] qA qA qE⟩
 ·obtain rfl:i=K.length:=by omega
  repeat' (first|refine Wd ?_|(refine Wc ?_ ?_<;>intro hb<;>try simp at hb)|refine Wm ?_|fail)
  all_goals try contradiction
  all_goals try(exfalso;omega)
  (refine Zl hc (hr:=?_))
  simp
theorem RW (O:List Frg) (hO:O.length≤1000000):aJ Tryz.prog 25 [Hn O,Hn O] (tru true):=by
 refine aW Tryz.func25 rfl qC Tryz.ntmps25 _ rfl qE fun C hc=>?_
 repeat' (first|refine Wd ?_|(refine Wc ?_ ?_<;>intro hb<;>try simp at hb)|refine Wm ?_|fail)
 all_goals try contradiction
 refine aN (fun i:Nat=>⟨[(0,.d (Hn O)),(1,.d (Hn O)),(12,.d (int O.length)),(13,.d (int i))],[]⟩) (fun i=>i≤O.length) (fun i=>O.length-i) 0 qE (aG [0,1,12,13] [] qA qA) ?_
 intro i hi
 by_cases h:i<O.length
 ·repeat' (first|refine Wd ?_|(refine Wc ?_ ?_<;>intro hb<;>try simp at hb)|refine Wo ?_|fail)
  all_goals try contradiction
  all_goals try(exfalso;omega)
  exact⟨i+1,qD,qD,aC [0,1,12,13] [] qA qA qE⟩
 ·obtain rfl:i=O.length:=by omega
  repeat' (first|refine Wd ?_|(refine Wc ?_ ?_<;>intro hb<;>try simp at hb)|refine Wm ?_|fail)
  all_goals try contradiction
  all_goals try(exfalso;omega)
  (refine Zl hc (hr:=?_))
  simp
theorem RX (n:Nat) (g:Nat→UInt8):aJ Tryz.prog 24 [byF n g,byF n g] (tru true):=by
 refine aW Tryz.func24 rfl qC Tryz.ntmps24 _ rfl qE fun C hc=>?_
 repeat' (first|refine Wd ?_|(refine Wc ?_ ?_<;>intro hb<;>try simp at hb)|refine Wo ?_|fail)
 (refine Zl hc (hr:=?_))
 simp
theorem HG (v:Vw) (h1:v.L4.length≤21) (h2:v.parts.length≤5000):aJ Tryz.prog 7 [v.d,v.d] (tru true):=by
 have hA:=RV v.L4 qD
 have hB:=RW v.parts qD
 have hC:=RX v.n v.g
 refine aW Tryz.func7 rfl qC Tryz.ntmps7 _ rfl qE fun C hc=>?_
 repeat' (first|refine Wd ?_|(refine Wc ?_ ?_<;>intro hb<;>try simp at hb)|refine Zw hc (hf:=by first|exact hA|exact hB|exact hC) (hk:=?_)|refine Zq hc (hf:=by first|exact hA|exact hB|exact hC) (hk:=?_)|refine Wo ?_|fail)
 (refine Zl hc (hr:=?_))
 simp
theorem vC (s:Sto) (hs:s.Fit) (hR:pR s) (key:Bs) (hk:key.length≤9223372036854775807) (t dr en at':Int):aJ Tryz.prog 3 [s.d,str key,int t,int dr,int en,int at'] (tru true):=by
 obtain⟨r,hr,hS⟩:=OB s hs hR [47,119,101,98] qE key hk t dr en at'
 have hS:aJ Tryz.prog 4 [s.d,s7,.sl 1 fun i=>[[str [110,111],str key,int 0,int 253402300800,int 0,int en,int 0,int 4,str []]][i]?.getD [str [],str [],int 0,int 0,int 0,int 0,int 0,int 0,str []],Hv,int at',str [47,119,101,98],str key,int t,int dr] r:=aJ.args (m:=[s.d,s7,u9 key en,Hv,int at',str [47,119,101,98],str key,int t,int dr]) rfl (fun i e hi=>by
  by_cases h2:i=2
  ·subst h2
   cases hi
   refine⟨_,rfl,nJ (fun i hi=>?_) fun i k d hi hk=>⟨d,?_,cJ.refl _⟩⟩
   ·obtain rfl:i=0:=by omega
    rfl
   ·obtain rfl:i=0:=by omega
    exact hk
  ·refine⟨e,?_,cJ.refl _⟩
   rw[←hi]
   match i,h2 with
   |0,_=>rfl
   |1,_=>rfl
   |i+3,_=>rfl) hS
 have hL:=ON
 refine aW Tryz.func3 rfl qC Tryz.ntmps3 _ rfl qE fun C hc=>?_
 repeat' (first|refine Wd ?_|(refine Wc ?_ ?_<;>intro hb<;>try simp at hb)|refine Wm ?_|fail)
 (first|refine rB 20 hc qA qE ?_|refine tN 20 hc qA qE ?_)
 rcases hr with⟨⟨vf,L4,ve,n,g,parts,Jk⟩,e,rfl,h1,h2,h3⟩|⟨h1,hF,v,e,rfl,g1,g2,g3,g4,g5⟩
 ·simp only at h1 h2
  subst h1
  subst h2
  by_cases he:e=0
  ·subst he
   have h3:=h3.resolve_right (fun h=>h rfl)
   repeat' (first|refine Wd ?_|(refine Wc ?_ ?_<;>intro hb<;>try simp at hb)|refine Zw hc (hf:=QH) (hk:=?_)|refine Zq hc (hf:=QH) (hk:=?_)|refine Wo ?_|fail)
   all_goals try contradiction
   all_goals try(exfalso;omega)
   (refine Zl hc (hr:=?_))
   simp
  ·repeat' (first|refine Wd ?_|(refine Wc ?_ ?_<;>intro hb<;>try simp at hb)|refine Zw hc (hf:=QH) (hk:=?_)|refine Zq hc (hf:=QH) (hk:=?_)|refine Wo ?_|fail)
   all_goals try contradiction
   (refine Zl hc (hr:=?_))
   simp
 ·by_cases he:e=0
  ·subst he
   have hV:=HG v g1 g2
   repeat' (first|refine Wd ?_|(refine Wc ?_ ?_<;>intro hb<;>try simp at hb)|refine Zw hc (hf:=by first|exact hS|exact hF|exact hV|exact hL) (hk:=?_)|refine Zq hc (hf:=by first|exact hS|exact hF|exact hV|exact hL) (hk:=?_)|refine Wo ?_|fail)
   all_goals try contradiction
   all_goals try(exfalso;omega)
   (refine Zl hc (hr:=?_))
   simp
  ·have hv:=g3 he
   obtain⟨vf,L4,ve,n,g,parts,Jk⟩:=v
   simp only at hv
   subst hv
   repeat' (first|refine Wd ?_|(refine Wc ?_ ?_<;>intro hb<;>try simp at hb)|refine Zw hc (hf:=QH) (hk:=?_)|refine Zq hc (hf:=QH) (hk:=?_)|refine Wo ?_|fail)
   all_goals try contradiction
   (refine Zl hc (hr:=?_))
   simp
end Go.Proofs.YtdjfgcjlnfnfhaaGreatDoor
namespace Go.Proofs.YtdjfgcjlnfnfhaaGreatDoor
open Go.Lw Go.RowKit Go.ChangeShapes Go.WideShapes Go.ChangeAt
set_option maxRecDepth 100000
set_option maxHeartbeats 2000000
def TE (e:En):Prop:=e.key.length≤reachBytes∧e.type.length≤reachBytes∧e.pG.length≤reachBytes∧e.file.length≤reachBytes
theorem OO:Opn Tryz.prog 32 (fun x:Int×Int=>[int x.1,int x.2]) (fun _=>True):=
 (pK (total:=2) Tryz.underlying32 rfl qC (cM (n:=1) qC qE (nV Tryz.underlying3) (cM (n:=1) qC qE (nV Tryz.underlying3) pJ))).map
   (fun x=>((x.1,x.2.1):Int×Int)) (fun _ _=>rfl) (fun _ _=>trivial)
theorem TF:Opn Tryz.prog 34 (fun e:En=>e.row) TE:=
 (pK (total:=9) Tryz.underlying34 rfl qC (cM (n:=1) qC qE wI (cM (n:=1) qC qE (nV Tryz.underlying3) (cM (n:=1) qC qE (nV Tryz.underlying3) (cM (n:=1) qC qE wI (cM (n:=1) qC qE wI (cM (n:=1) qC qE wI (cM (n:=2) qC qE OO (cM (n:=1) qC qE (NF Tryz.underlying4) pJ))))))))).map
   (fun x=>(⟨x.1,x.2.1,x.2.2.1,x.2.2.2.1,x.2.2.2.2.1,x.2.2.2.2.2.1,x.2.2.2.2.2.2.1.1,x.2.2.2.2.2.2.1.2,x.2.2.2.2.2.2.2.1⟩:En)) (fun _ _=>rfl) (fun _ h=>⟨h.1,h.2.2.2.1,h.2.2.2.2.1,h.2.2.2.2.2.1⟩)
theorem RY:Opn Tryz.prog 22 (fun l:List En=>[.sl l.length fun i=>(l[i]?.getD En0).row]) (fun l=>l.length≤maxLen∧ ∀x∈l,TE x):=
 (rJ (En0:En) Tryz.underlying22 (n:=9) qC qD TF).map (fun l=>l) (fun l _=>by simp) (fun _ h=>h)
theorem TG:Opn Tryz.prog 35 (fun l:Bs=>[byS l]) (fun l=>l.length≤maxLen):=
 (rJ (0:UInt8) Tryz.underlying35 (n:=1) qC qD N3).map (fun l=>l) (fun l _=>by simp) (fun _ h=>h.1)
def TH (x:Fi):Prop:=x.name.length≤reachBytes∧x.nb≤maxLen
theorem TI:Opn Tryz.prog 156 (fun x:Fi=>x.row) TH:=
 (pK (total:=2) Tryz.underlying156 rfl qC (cM (n:=1) qC qE wI (cM (n:=1) qC qE TG pJ))).map
   (fun x=>(⟨x.1,x.2.1.length,fun i=>x.2.1[i]?.getD 0⟩:Fi)) (fun _ _=>rfl) (fun _ h=>⟨h.1,h.2.1⟩)
theorem RZ:Opn Tryz.prog 23 (fun l:List Fi=>[.sl l.length fun i=>(l[i]?.getD Fi0).row]) (fun l=>l.length≤maxLen∧ ∀x∈l,TH x):=
 (rJ (Fi0:Fi) Tryz.underlying23 (n:=2) qC qD TI).map (fun l=>l) (fun l _=>by simp) (fun _ h=>h)
theorem R0:Opn Tryz.prog 24 (fun l:List Rul=>[nA l]) oE:=
 (rJ ((0,[]):Rul) Tryz.underlying24 (n:=2) qC qD RT).map (fun l=>l) (fun l _=>by simp) (fun _ h=>h)
structure StI where
 E:List En
 F:List Fi
 R:List Rul
abbrev StI.s (x:StI):Sto:=⟨x.E.length,fun i=>x.E[i]?.getD En0,x.F.length,fun i=>x.F[i]?.getD Fi0,x.R⟩
def TJ (x:StI):Prop:=(x.E.length≤maxLen∧ ∀e∈x.E,TE e)∧(x.F.length≤maxLen∧ ∀f∈x.F,TH f)∧oE x.R
theorem R1:Opn Tryz.prog 26 (fun x:StI=>x.s.cells) TJ:=
 (pK (total:=3) Tryz.underlying26 rfl qC (cM (n:=1) qC qE RY (cM (n:=1) qC qE RZ (cM (n:=1) qC qE R0 pJ)))).map
   (fun x=>(⟨x.1,x.2.1,x.2.2.1⟩:StI)) (fun _ _=>rfl) (fun _ h=>⟨h.1,h.2.1,h.2.2.1⟩)
abbrev V1 (x:StI):D:=x.s.d
theorem OP:NG Tryz.prog 26 V1 TJ:=GV R1 Tryz.underlying26
theorem BV (x:StI) (hx:TJ x) (key:Bs) (hk:key.length≤maxLen) (t dr en at':Int):aJ Tryz.prog 3 [V1 x,str key,int t,int dr,int en,int at'] (tru true):=by
 obtain⟨⟨h1,h2⟩,⟨h3,h4⟩,h5⟩:=hx
 unfold maxLen at*
 refine vC x.s ⟨h1,fun i hi=>?_,h3,fun i hi=>?_,RU x.R h5⟩ (Mh x.s h5) key hk t dr en at'
 ·obtain⟨g1,g2,g3,g4⟩:=h2 _ (List.getElem_mem hi)
  unfold reachBytes at*
  simp only[List.getElem?_eq_getElem hi,Option.getD_some]
  exact⟨qD,qD,qD,qD⟩
 ·obtain⟨g1,g2⟩:=h4 _ (List.getElem_mem hi)
  unfold reachBytes maxLen at*
  simp only[List.getElem?_eq_getElem hi,Option.getD_some]
  omega
theorem EB:NG Tryz.prog 3 int (inR .i64):=Cv (nV Tryz.underlying3) (fun _=>rfl) qC
end Go.Proofs.YtdjfgcjlnfnfhaaGreatDoor
namespace Go.Lw
open Go.RowKit Go.ChangeShapes Go.WideShapes Go.ChangeAt
variable {H:Type} {enc:TypeId×Value→H}
theorem vD {a:Assume} {C:Checked} {os:Os} {f:FuncId} {fn:Func} {s:ChangeSpec} {conds:List PathCond} {apart fresh handsOn again:Bool} {X:World→Array Value→Prop}
 (hX: ∀(w w':World) (args:Array Value),w.heap=w'.heap→X w args→X w' args)
 (own:ownKnob C.prog.godebug=none) (started:os.Started) (noInit:C.prog.inits.idxOf? f=none) (hfn:C.prog.funcs[f]?=some fn)
 (witness: ∃(w:World) (tape:Tape) (i:Input),w.os=os∧(w.forCall tape i).Shaped C.prog∧i.vars=[]∧Input.okWide C.prog (w.forCall tape i) .any w.heap.size f i∧
   ((s.pre enc C.prog fn conds apart (w.forCall tape i).memory i.args∧X (w.forCall tape i).memory i.args)∧sizedMet enc C.prog fn (OpenSpec.ofChange s) apart (w.forCall tape i).memory i.args)∧a.holds C.prog (lone (Frame.enter C.prog f i.args .normal) [] (w.forCall tape i)))
 (contract: ∀(W:World) (base:Nat) (args:Array Value) (ds gs:List (DataW H)) (before:List MemPlace),
   (∀(j:Nat) t v,fn.params[j]?=some t→args[j]?=some v→Value.okWide C.prog W .any base t v)→
   DataW.Whole enc C.prog fn.params.toList s.vars apart W args.toList ds gs before→
   (DataW.weightsEach C.prog (fn.params.toList++s.plain.varTypes C.prog) (ds++gs)).all (· ≤reachBytes)=true→X W args→W.ShapedOpen C.prog→
   Calls C.prog f args W fun e W'=> ∃v,e= .returned v∧s.post enc C.prog fn apart fresh handsOn again W args v W'):
 ReturnsInHanded a C os f .any (fun w args=>(s.pre enc C.prog fn conds apart w args∧X w args)∧sizedMet enc C.prog fn (OpenSpec.ofChange s) apart w args) (s.post enc C.prog fn apart fresh handsOn again):=by
 refine returnsInHanded_of_calls own started noInit witness ?_
 intro w tape i _ hsh _ hok hpre hholds
 obtain⟨_,_,_,fn',hfn',_,_,_,_,hval⟩:=hok
 have e:fn'=fn:=Option.some.inj (hfn'.symm.trans hfn)
 subst e
 obtain⟨⟨⟨ds,gs,before,hw,hc⟩,hx⟩,hz⟩:=hpre
 have hw':=DataW.Whole.of_heap (w':=w.forCall tape i) (by rfl) hw
 refine(contract (w.forCall tape i) w.heap.size i.args ds gs before hval hw' (hz.weights hw) (hX _ _ _ (by rfl) hx) hsh).mono fun e W' ⟨v,he,hp⟩=>?_
 subst he
 exact ChangeSpec.post_blind hp
theorem HH {P:Program} {n nm:String} {d:DataW Unit} {r:List (String×DataW Unit)} {W:World} {g:Nat} {ti:TypeId} {ms:Array (String×TypeId)}
 (h:laidMet P ((n,.iface nm d)::r) W) (hg:P.globalNamed n=some g) (ht:(P.globals[g]?).map (·.type)=some ti) (hi:P.underlying ti=some (.interface ms)): ∃te pe,W.cell? ⟨g,0,none⟩=some (.iface te pe):=by
 obtain⟨ps,⟨g0,t0,cs0,f0,p0,q0,hg0,ht0,hv0,hd0,_,e0⟩,_,_⟩:=h
 obtain rfl:=Option.some.inj (hg.symm.trans hg0)
 obtain rfl:=Option.some.inj (ht.symm.trans ht0)
 subst e0
 obtain⟨l0⟩:=cs0
 cases f0 with
 |zero=>simp[DataW.trod]at hd0
 |succ k=>
  match l0,hd0,hv0 with
  |[],hd0,_=>simp[DataW.trod,hi]at hd0
  |[E],hd0,hv0=>
   cases E with
   |iface u v=>exact⟨u,v,by simpa using World.var?_cell hg0 hv0 0⟩
   |_=>simp[DataW.trod,hi]at hd0
  |_::_::_,hd0,_=>simp[DataW.trod,hi]at hd0
theorem goes_none {c:OpenClaim} {P:Program} (h:P.funcs.any Func.goes=false):c.goesBy P=false:=by
 have hg: ∀f,P.goes f=false:=by
  intro f
  have hn: ∀g:FuncId,(P.funcs[g]?).any Func.goes=false:=by
   intro g
   cases hx:P.funcs[g]? with
   |none=>rfl
   |some fn=>
    obtain⟨hg,rfl⟩:=Array.getElem?_eq_some_iff.1 hx
    rw[Array.any_eq_false]at h
    simpa using h g hg
  unfold Program.goes
  rw[h,Bool.and_false,Bool.or_false]
  simp[hn]
 unfold OpenClaim.goesBy Program.goesAt Program.goesFrom
 cases P.funcNamed c.func<;>cases c.start<;>simp[hg]
end Go.Lw
