/- RECORDS: a record and its pieces become one. -/
import Derived.Test.YtdjfgcjlnfnfhaaGreatDoorBag
import Derived.Test.YtdjfgcjlnfnfhaaGreatDoorLwEx
import Derived.Test.YtdjfgcjlnfnfhaaGreatDoorAdA
set_option linter.unusedSimpArgs false
set_option linter.unusedVariables false
namespace Go.Lw
open Go.RowKit
abbrev Grp:=List (Int×List Nat)
def rO:Grp→Int→Nat→Grp
 |[],k,j=>[(k,[j])]
 |(k',js)::r,k,j=>if k'=k then(k',js++[j])::r else(k',js)::rO r k j
def sN (mt:Nat→Bool) (key:Nat→Int):Nat→Grp
 |0=>[]
 |j+1=>bif mt j then rO (sN mt key j) (key j) j else sN mt key j
structure cZ where
 k:Int
 js:List Nat
 b:Nat
 cap:Nat
abbrev cZ.val (t:cZ):Value:= .slice (some ⟨t.b,0,none⟩) t.js.length t.cap
abbrev cZ.g (t:cZ):Int×List Nat:=(t.k,t.js)
def dW (T:List cZ):List (Key×D):=T.map fun t=>(Key.i t.k,D.lit t.val)
abbrev wC:Value:= .slice none 0 0
theorem Cq (k:Int) (j:Nat): ∀T:List cZ,
 (∃T1 t T2,T=T1++t::T2∧t.k=k∧dT (.lit wC) (dW T) (.i k)= .lit t.val∧(∀t':cZ,t'.k=k→gB (dW T) (.i k) (.lit t'.val)=dW (T1++t'::T2))∧rO (T.map cZ.g) k j=T1.map cZ.g++(k,t.js++[j])::T2.map cZ.g)∨
 (dT (.lit wC) (dW T) (.i k)= .lit wC∧(∀t':cZ,t'.k=k→gB (dW T) (.i k) (.lit t'.val)=dW (T++[t']))∧rO (T.map cZ.g) k j=T.map cZ.g++[(k,[j])])
 |[]=> .inr ⟨rfl,fun t' ht=>by subst ht;rfl,rfl⟩
 |t::T=>by
  by_cases hk:t.k=k
  ·refine .inl ⟨[],t,T,rfl,hk,?_,fun t' ht=>?_,?_⟩
   ·simp[dW,dT,hk]
   ·simp[dW,gB,hk,ht]
   ·simp[rO,hk]
  ·have hne:Key.i t.k≠Key.i k:=fun e=>hk (by cases e;rfl)
   rcases Cq k j T with⟨T1,u,T2,h1,h2,h3,h4,h5⟩|⟨h3,h4,h5⟩
   ·refine .inl ⟨t::T1,u,T2,by rw[h1];rfl,h2,?_,fun t' ht=>?_,?_⟩
    ·have:=h3
     simp only[dW,List.map_cons,dT,if_neg hne]at this⊢
     exact this
    ·have:=h4 t' ht
     simp only[dW,List.map_cons,gB,if_neg hne,List.cons_append]at this⊢
     rw[this]
    ·simp only[List.map_cons,rO,if_neg hk,h5,List.cons_append]
   ·refine .inr ⟨?_,fun t' ht=>?_,?_⟩
    ·have:=h3
     simp only[dW,List.map_cons,dT,if_neg hne]at this⊢
     exact this
    ·have:=h4 t' ht
     simp only[dW,List.map_cons,gB,if_neg hne,List.cons_append]at this⊢
     rw[this]
    ·simp only[List.map_cons,rO,if_neg hk,h5,List.cons_append]
section
variable {C:Ctx} {st:St} {ok:Nat→Prop} {h:Nat→Hd} {a:Act} {w:World}
theorem Rep.add (r:Rep C st ok h a w) {id:Nat} {hd:Hd} {o:O} (hf:bK id st=true) (hnone:look id st.aD=none) (hid:id<100000) (ho:RdO w ok (upd h id hd) id o)
 (hb: ∀b,hd.blk=some b→b<w.heap.size∧ ¬ok b∧C.w0.heap.size≤b∧ ∀j o1,look j st.aD=some o1→(h j).blk≠some b):Rep C {st with aD:=place id o st.aD} ok (upd h id hd) a w:=by
 have hobj: ∀j o',look j (place id o st.aD)=some o'→(id=j∧o'=o)∨(j≠id∧look j st.aD=some o'):=fun j o' hj=>by
  rw[a8]at hj
  split at hj
  ·rename_i e';exact .inl ⟨e',(Option.some.inj hj).symm⟩
  ·rename_i e';exact .inr ⟨fun e1=>e' e1.symm,hj⟩
 have hm:=r.mem
 refine⟨⟨hm.os,hm.tape,hm.output,hm.size,hm.block,hm.okb,fun j o' hj=>?_,fun j o' b hj hbk=>?_,fun j j' o1 o2 b hj hj' hne hbk=>?_⟩,r.defers,r.nt,fun j hj=>(bS h id _ j qD).trans (r.pin j hj),fun j x hx=>?_⟩
 ·rcases hobj j o' hj with⟨rfl,rfl⟩|⟨hne,hj⟩
  ·exact ho
  ·exact(hm.obj j o' hj).swap (bS h id _) hne (kE hf hne hj)
 ·rcases hobj j o' hj with⟨rfl,rfl⟩|⟨hne,hj⟩
  ·rw[aM]at hbk
   obtain⟨h1,h2,h3,_⟩:=hb b hbk
   exact⟨h1,h2,.inl h3⟩
  ·rw[bS h id _ j hne]at hbk
   exact hm.blk j o' b hj hbk
 ·rcases hobj j o1 hj with⟨rfl,rfl⟩|⟨hne1,hj⟩
  ·rw[aM]at hbk
   rcases hobj j' o2 hj' with⟨e,_⟩|⟨hne2,hj'⟩
   ·exact absurd e hne
   ·rw[bS h id _ j' hne2]
    exact(hb b hbk).2.2.2 j' o2 hj'
  ·rw[bS h id _ j hne1]at hbk
   rcases hobj j' o2 hj' with⟨e1,_⟩|⟨hne2,hj'⟩
   ·rw[←e1,aM]
    intro hx
    exact(hb b hx).2.2.2 j o1 hj hbk
   ·rw[bS h id _ j' hne2]
    exact hm.apart j j' o1 o2 b hj hj' hne hbk
 ·obtain⟨h1,v,h2,h3⟩:=r.slot j x hx
  exact⟨h1,v,h2,h3.swap (bS h id _) (iX hf hx)⟩
theorem Rep.sub {st':St} (r:Rep C st ok h a w) (hs: ∀i x,look i st'.aO=some x→look i st.aO=some x) (ho: ∀i x,look i st'.aD=some x→look i st.aD=some x):Rep C st' ok h a w:=
 ⟨⟨r.mem.os,r.mem.tape,r.mem.output,r.mem.size,r.mem.block,r.mem.okb,fun i x hx=>r.mem.obj i x (ho i x hx),fun i x b hx=>r.mem.blk i x b (ho i x hx),fun i j x y b hx hy=>r.mem.apart i j x y b (ho i x hx) (ho j y hy)⟩,r.defers,r.nt,r.pin,fun i x hx=>r.slot i x (hs i x hx)⟩
end
abbrev kX (sl:List (Nat×V)) (dm:Nat) (ob:List (Nat×O)) (L:List (Key×D)):St:=⟨sl,(dm,.cB 1 L)::ob⟩
structure xX (C:Ctx) (e sz:Nat) (row:Nat→List D) (S:List (Key×D)→St) (T:List cZ) (ok:Nat→Prop) (h:Nat→Hd) (a:Act) (w:World):Prop where
 rep:Rep C (S (dW T)) ok h a w
 hid:Hid C (S (dW T)) ok h w fun b=>b∈T.map cZ.b
 nd:(T.map cZ.b).Nodup
 own:wB C (S (dW T)) h
 bag: ∀t∈T,RdO w ok (fun _=>⟨some t.b,t.cap,sz⟩) 0 (.own e sz (true,[]) (t.js.map row))
theorem GA {w w':World} {ok ok':Nat→Prop} {e sz:Nat} {row:Nat→List D} {t:cZ} (hb:w'.heap[t.b]?=w.heap[t.b]?) (hw: ∀b,ok b→w'.heap[b]?=w.heap[b]?) (ho: ∀b,ok b→ok' b) (hx:RdO w ok (fun _=>⟨some t.b,t.cap,sz⟩) 0 (.own e sz (true,[]) (t.js.map row))):
 RdO w' ok' (fun _=>⟨some t.b,t.cap,sz⟩) 0 (.own e sz (true,[]) (t.js.map row)):=
 hx.mono hw ho fun b h=>by cases h;exact hb
theorem Cr {C:Ctx} (hc:cS C) {c:Code} {e sz:Nat} {row:Nat→List D} {sl sl':List (Nat×V)} {dm:Nat} {ob:List (Nat×O)} {T:List cZ} {ok:Nat→Prop} {h:Nat→Hd} {a:Act} {w:World} (B:xX C e sz row (kX sl dm ob) T ok h a w)
 (hids:(decide (50000≤dm)&&ob.all fun p=>decide (50000≤p.1))=true) (ex:Exit) (hx: ∀C':Ctx,bB C' C.P C.nt→ewp C' c (fun e' s=>e'=ex∧s=kX sl' dm ob (dW T)) (kX sl dm ob (dW T))):
 Code.wp C.P c (fun e' a' w'=>e'=ex∧ ∃ok' h',xX C e sz row (kX sl' dm ob) T ok' h' a' w') a w:=by
 simp only[Bool.and_eq_true,decide_eq_true_eq,List.all_eq_true]at hids
 refine wp_mono (frame hc (B:=fun b=>b∈T.map cZ.b) (fun id o hl=>?_) hx B.rep B.hid) ?_
 ·simp only[look]at hl
  split at hl
  ·omega
  ·exact hids.2 _ (cX hl)
 ·rintro e' a' w' ⟨st',ok',h',⟨rfl,rfl⟩,r',hid',hsame,hok,hfrom⟩
  refine⟨rfl,ok',h',r',hid',B.nd,fun id o b h1 h2=>?_,fun t ht=>?_⟩
  ·rcases hfrom id o b h1 h2 with h3|⟨o2,h3,h4⟩
   ·exact h3
   ·exact B.own id o2 b h3 h4
  ·exact GA (hsame _ (.inl (List.mem_map.2 ⟨t,ht,rfl⟩))) (fun b hb=>hsame b (.inr hb)) hok (B.bag t ht)
theorem Cs {α:Type} {i:Nat} {x:α}: ∀{l:List (Nat×α)},look i l=none→place i x l=l++[(i,x)]
 |[],_=>rfl
 |(j,y)::r,hl=>by
  simp only[look]at hl
  split at hl
  ·cases hl
  ·rename_i hne
   simp only[place,if_neg hne,Cs hl,List.cons_append]
theorem SX {w:World} {ok:Nat→Prop} {h:Nat→Hd} {id e sz:Nat} {hd:Hd} {z:List D} {rows:List (List D)} (hh:h id=hd) (hx:RdO w ok (fun _=>hd) 0 (.own e sz (true,[]) rows)):RdO w ok h id (.own e sz (true,z) rows):=by
 unfold RdO at hx⊢
 rw[hh]
 exact hx
theorem SY {w:World} {ok:Nat→Prop} {h:Nat→Hd} {id e sz:Nat} {z:List D} {rows:List (List D)} (hx:RdO w ok h id (.own e sz (true,z) rows)):RdO w ok (fun _=>h id) 0 (.own e sz (true,[]) rows):=hx
theorem Nf {C:Ctx} (hc:cS C) {c:Code} {e sz:Nat} {z:List D} {row:Nat→List D} {sl sl':List (Nat×V)} {dm:Nat} {ob:List (Nat×O)} {T:List cZ} {ok:Nat→Prop} {h:Nat→Hd} {a:Act} {w:World} (k:Int) (j N:Nat) (B:xX C e sz row (kX sl dm ob) T ok h a w)
 (hN: ∀t∈T,t.js.length≤N) (hids:(decide (50000≤dm)&&ob.all fun p=>decide (50000≤p.1))=true)
 (hfr:(decide (dm≠60100)&&decide (dm≠60102)&&decide (dm≠60103)&&bK 60100 ⟨sl,ob⟩&&bK 60102 ⟨sl,ob⟩&&(look 60100 ob).isNone&&(look 60102 ob).isNone&&(look 60103 ob).isNone)=true)
 (hx: ∀C':Ctx,bB C' C.P C.nt→ ∀(L:List (Key×D)) (v:Value) (js:List Nat),js.length≤N→dT (.lit wC) L (.i k)= .lit v→
   ewp C' c (fun e' s=>e'= .normal∧ ∃A cap,s=⟨sl',(dm,.cB 1 (gB L (.i k) (.lit (.slice A (js.length+1) cap))))::(60100,.own e sz (true,z) (js.map row++[row j]))::(60103,.cD (.os 60100 (js.length+1)) (.slice A (js.length+1) cap))::ob⟩)
    ⟨sl,(dm,.cB 1 L)::(60100,.own e sz (true,z) (js.map row))::(60102,.cD (.os 60100 js.length) v)::ob⟩):
 Code.wp C.P c (fun e' a' w'=>e'= .normal∧ ∃T' ok' h',xX C e sz row (kX sl' dm ob) T' ok' h' a' w'∧T'.map cZ.g=rO (T.map cZ.g) k j) a w:=by
 simp only[Bool.and_eq_true,decide_eq_true_eq,List.all_eq_true,Option.isNone_iff_eq_none]at hids hfr
 obtain⟨⟨⟨⟨⟨⟨⟨d1,d2⟩,d3⟩,f1⟩,f2⟩,n1⟩,n2⟩,n3⟩:=hfr
 have hS:=B.rep
 have fB: ∀{i:Nat},bK i ⟨sl,ob⟩=true→bK i (kX sl dm ob (dW T))=true:=fun{i} hf=>by
  simp only[bK,Bool.and_eq_true,List.all_cons,O.bU,Bool.not_false,Bool.or_true,true_and]at hf⊢
  exact hf
 have l1:look 60100 (kX sl dm ob (dW T)).aD=none:=by simp only[look,if_neg d1,n1]
 have l2:look 60102 (kX sl dm ob (dW T)).aD=none:=by simp only[look,if_neg d2,n2]
 have main: ∀(R:List cZ) (js:List Nat) (hd:Hd) (v:Value) (mk:cZ→List cZ),RdO w ok (fun _=>hd) 0 (.own e sz (true,[]) (js.map row))→v= .slice hd.addr js.length hd.cap→js.length≤hd.cap→
  (∀b,hd.blk=some b→b∈T.map cZ.b∧b∉R.map cZ.b)→(∀t∈R,t∈T)→(R.map cZ.b).Nodup→js.length≤N→dT (.lit wC) (dW T) (.i k)= .lit v→
  (∀t':cZ,t'.k=k→gB (dW T) (.i k) (.lit t'.val)=dW (mk t'))→(∀t':cZ,t'.k=k→t'.js=js++[j]→(mk t').map cZ.g=rO (T.map cZ.g) k j)→(∀t' x,x∈mk t'→x=t'∨x∈R)→(∀t':cZ,t'.b∉R.map cZ.b→((mk t').map cZ.b).Nodup)→
  Code.wp C.P c (fun e' a' w'=>e'= .normal∧ ∃T' ok' h',xX C e sz row (kX sl' dm ob) T' ok' h' a' w'∧T'.map cZ.g=rO (T.map cZ.g) k j) a w:=by
  intro R js hd v mk ho hv hle hbR hRT hRn hjN hget hput hgad hmem hnd
  have r1:=hS.add (id:=60100) (hd:=hd) (o:= .own e sz (true,z) (js.map row)) (fB f1) l1 qD (SX (aM _ _ _) ho) (fun b hb=>by
   have hbT:=(hbR b hb).1
   exact⟨B.hid.lt b hbT,B.hid.no b hbT,B.hid.ge b hbT,fun j o1 hj h2=>B.hid.ne j o1 b hj h2 hbT⟩)
  have hfr2:bK 60102 {kX sl dm ob (dW T)with aD:=place 60100 (.own e sz (true,z) (js.map row)) (kX sl dm ob (dW T)).aD}=true:=by
   rw[Cs l1]
   have:=fB f2
   simp only[bK,Bool.and_eq_true,List.all_append,List.all_cons,List.all_nil,O.bU,Bool.not_false,Bool.or_true,true_and,and_true]at this⊢
   exact this
  have hl2':look 60102 (place 60100 (O.own e sz (true,z) (js.map row)) (kX sl dm ob (dW T)).aD)=none:=by
   rw[a8,if_neg qD]
   exact l2
  have r2:=r1.add (id:=60102) (hd:=⟨none,0,0⟩) (o:= .cD (.os 60100 js.length) v) hfr2 hl2' qD ⟨Qz,by
   have h100:upd (upd h 60100 hd) 60102 ⟨none,0,0⟩ 60100=hd:=by rw[bS _ _ _ _ qD,aM]
   have:=RdV.os (w:=w) (ok:=ok) (h:=upd (upd h 60100 hd) 60102 ⟨none,0,0⟩) 60100 js.length (by rw[h100];exact hle)
   rw[h100]at this
   rw[hv]
   exact this⟩ (fun b hb=>by cases hb)
  have hsub: ∀i x,look i ((dm,O.cB 1 (dW T))::(60100,O.own e sz (true,z) (js.map row))::(60102,O.cD (.os 60100 js.length) v)::ob)=some x→look i (place 60102 (O.cD (.os 60100 js.length) v) (place 60100 (O.own e sz (true,z) (js.map row)) ((dm,O.cB 1 (dW T))::ob)))=some x:=by
   intro i x hi
   simp only[a8,look]at hi⊢
   by_cases h1:dm=i
   ·subst h1
    simp only[if_true]at hi
    rw[if_neg (Ne.symm d2),if_neg (Ne.symm d1),if_pos rfl]
    exact hi
   ·rw[if_neg h1]at hi⊢
    by_cases h2:60100=i
    ·rw[if_pos h2]at hi
     rw[if_neg qD,if_pos h2]
     exact hi
    ·rw[if_neg h2]at hi
     rw[if_neg h2]
     exact hi
  have r3:Rep C ⟨sl,(dm,.cB 1 (dW T))::(60100,.own e sz (true,z) (js.map row))::(60102,.cD (.os 60100 js.length) v)::ob⟩ ok (upd (upd h 60100 hd) 60102 ⟨none,0,0⟩) a w:=r2.sub (fun _ _ h=>h) hsub
  have hh2: ∀i,i≠60100→i≠60102→upd (upd h 60100 hd) 60102 ⟨none,0,0⟩ i=h i:=fun i h1 h2=>by rw[bS _ _ _ _ h2,bS _ _ _ _ h1]
  have hobF: ∀i o,look i ((dm,O.cB 1 (dW T))::(60100,O.own e sz (true,z) (js.map row))::(60102,O.cD (.os 60100 js.length) v)::ob)=some o→i≠60100→i≠60102→look i (kX sl dm ob (dW T)).aD=some o:=by
   intro i o hi h1 h2
   simp only[look]at hi⊢
   split
   ·rename_i e1
    rw[if_pos e1]at hi
    exact hi
   ·rename_i e1
    rw[if_neg e1,if_neg (Ne.symm h1),if_neg (Ne.symm h2)]at hi
    exact hi
  have hid2:Hid C ⟨sl,(dm,.cB 1 (dW T))::(60100,.own e sz (true,z) (js.map row))::(60102,.cD (.os 60100 js.length) v)::ob⟩ ok (upd (upd h 60100 hd) 60102 ⟨none,0,0⟩) w (fun b=>b∈R.map cZ.b):=by
   have hRb: ∀b,b∈R.map cZ.b→b∈T.map cZ.b:=fun b hb=>by
    obtain⟨t,h1,h2⟩:=List.mem_map.1 hb
    exact List.mem_map.2 ⟨t,hRT t h1,h2⟩
   refine⟨fun b hb=>B.hid.lt b (hRb b hb),fun b hb=>B.hid.ge b (hRb b hb),fun b hb=>B.hid.no b (hRb b hb),fun i o b hl hb hbR'=>?_⟩
   by_cases h1:i=60100
   ·subst h1
    rw[bS _ _ _ _ qD,aM]at hb
    exact(hbR b hb).2 hbR'
   ·by_cases h2:i=60102
    ·subst h2
     rw[aM]at hb
     cases hb
    ·rw[hh2 i h1 h2]at hb
     exact B.hid.ne i o b (hobF i o hl h1 h2) hb (hRb b hbR')
  refine wp_mono (frame hc (fun id o hl=>?_) (fun C' hC'=>hx C' hC' (dW T) v js hjN hget) r3 hid2) ?_
  ·simp only[look]at hl
   split at hl
   ·omega
   ·split at hl
    ·omega
    ·split at hl
     ·omega
     ·exact hids.2 _ (cX hl)
  ·rintro e' a' w' ⟨st',ok',h',⟨rfl,A,cap,rfl⟩,r',hid',hsame,hok,hfrom⟩
   have hg:=r'.mem.obj 60103 (.cD (.os 60100 (js.length+1)) (.slice A (js.length+1) cap)) (by simp[look,d3])
   have ho':=r'.mem.obj 60100 (.own e sz (true,z) (js.map row++[row j])) (by simp[look,d1])
   obtain⟨b',hb'⟩: ∃b',(h' 60100).blk=some b':=by
    rcases ho'.2.2 with⟨_,h1,_⟩|⟨b,_,_,h1,_⟩
    ·simp at h1
    ·exact⟨b,h1⟩
   have hgv:=hg.2
   generalize hV:Value.slice A (js.length+1) cap=V at hgv
   cases hgv with
   |os _ _ hcap=>
   cases hV
   have hl100: ∀b,(h' 60100).blk=some b→C.w0.heap.size≤b:=fun b hb=>by
    rcases hfrom 60100 _ b QC hb with h3|⟨o2,h3,h4⟩
    ·exact h3
    ·rw[bS _ _ _ _ qD,aM]at h4
     exact B.hid.ge b (hbR b h4).1
   obtain⟨t',ht'⟩: ∃t':cZ,t'=⟨k,js++[j],b',(h' 60100).cap⟩:=⟨_,rfl⟩
   have hk':t'.k=k:=by rw[ht']
   have hval:t'.val= .slice (h' 60100).addr (js.length+1) (h' 60100).cap:=by
    rw[ht']
    simp[cZ.val,Hd.addr,hb']
   have hLn:gB (dW T) (.i k) (.lit (.slice (h' 60100).addr (js.length+1) (h' 60100).cap))=dW (mk t'):=by rw[←hval];exact hput t' hk'
   have hbb:t'.b=b':=by rw[ht']
   have hb'R:b'∉R.map cZ.b:=hid'.ne 60100 _ b' QC hb'
   have hsub2: ∀i x,look i ((dm,O.cB 1 (dW (mk t')))::ob)=some x→i≠60100∧look i ((dm,O.cB 1 (gB (dW T) (.i k) (.lit (.slice (h' 60100).addr (js.length+1) (h' 60100).cap))))::(60100,O.own e sz (true,z) (js.map row++[row j]))::(60103,O.cD (.os 60100 (js.length+1)) (.slice (h' 60100).addr (js.length+1) (h' 60100).cap))::ob)=some x:=by
    intro i x hi
    simp only[look]at hi⊢
    by_cases h1:dm=i
    ·subst h1
     refine⟨d1,?_⟩
     rw[if_pos rfl]at hi⊢
     rw[hLn]
     exact hi
    ·rw[if_neg h1]at hi⊢
     have e1:i≠60100:=fun e=>by rw[e,n1]at hi;cases hi
     have e2:i≠60103:=fun e=>by rw[e,n3]at hi;cases hi
     rw[if_neg (Ne.symm e1),if_neg (Ne.symm e2)]
     exact⟨e1,hi⟩
   refine⟨rfl,mk t',ok',h',⟨r'.sub (fun _ _ h=>h) fun i x hi=>(hsub2 i x hi).2,⟨?_,?_,?_,?_⟩,?_,?_,?_⟩,hgad t' hk' (by rw[ht'])⟩
   ·intro b hb
    obtain⟨x,h1,rfl⟩:=List.mem_map.1 hb
    rcases hmem t' x h1 with rfl|h1
    ·rw[hbb]
     exact(r'.mem.blk 60100 _ b' QC hb').1
    ·exact hid'.lt _ (List.mem_map.2 ⟨x,h1,rfl⟩)
   ·intro b hb
    obtain⟨x,h1,rfl⟩:=List.mem_map.1 hb
    rcases hmem t' x h1 with rfl|h1
    ·rw[hbb]
     exact hl100 b' hb'
    ·exact hid'.ge _ (List.mem_map.2 ⟨x,h1,rfl⟩)
   ·intro b hb
    obtain⟨x,h1,rfl⟩:=List.mem_map.1 hb
    rcases hmem t' x h1 with rfl|h1
    ·rw[hbb]
     exact(r'.mem.blk 60100 _ b' QC hb').2.1
    ·exact hid'.no _ (List.mem_map.2 ⟨x,h1,rfl⟩)
   ·intro i o b hi hb hbm
    obtain⟨e1,hi2⟩:=hsub2 i o hi
    obtain⟨x,h1,rfl⟩:=List.mem_map.1 hbm
    rcases hmem t' x h1 with rfl|h1
    ·rw[hbb]at hb
     exact r'.mem.apart i 60100 o _ b' hi2 QC e1 hb hb'
    ·exact hid'.ne i o _ hi2 hb (List.mem_map.2 ⟨x,h1,rfl⟩)
   ·exact hnd t' (by rw[hbb];exact hb'R)
   ·intro i o b hi hb
    obtain⟨e1,hi2⟩:=hsub2 i o hi
    rcases hfrom i o b hi2 hb with h3|⟨o2,h3,h4⟩
    ·exact h3
    ·by_cases e2:i=60102
     ·subst e2
      rw[aM]at h4
      cases h4
     ·rw[hh2 i e1 e2]at h4
      exact B.own i o2 b (hobF i o2 h3 e1 e2) h4
   ·intro x hx'
    rcases hmem t' x hx' with rfl|h1
    ·have hhd:h' 60100=⟨some x.b,x.cap,sz⟩:=by
      have h5:=ho'.1
      rw[hbb,ht']
      cases hq:h' 60100 with
      |mk bk cp s=>
       rw[hq]at hb' h5
       simp only at hb' h5⊢
       rw[hb',h5]
     have:=SY ho'
     rw[hhd]at this
     have hjs:x.js.map row=js.map row++[row j]:=by rw[ht'];simp
     rw[hjs]
     exact this
    ·exact GA (hsame _ (.inl (List.mem_map.2 ⟨x,h1,rfl⟩))) (fun b hb=>hsame b (.inr hb)) hok (B.bag x (hRT x h1))
 rcases Cq k j T with⟨T1,t,T2,h1,h2,h3,h4,h5⟩|⟨h3,h4,h5⟩
 ·have htT:t∈T:=by rw[h1];simp
  have hbt:=B.bag t htT
  have hnd:=B.nd
  rw[h1,List.map_append,List.map_cons,List.nodup_append]at hnd
  obtain⟨g1,g2,g3⟩:=hnd
  rw[List.nodup_cons]at g2
  have hT1:t.b∉T1.map cZ.b:=fun hm=>g3 t.b hm t.b qE rfl
  refine main (T1++T2) t.js ⟨some t.b,t.cap,sz⟩ t.val (fun t'=>T1++t'::T2) hbt rfl ?_ ?_ ?_ ?_ (hN t htT) h3 h4 ?_ ?_ ?_
  ·rcases hbt.2.2 with⟨h6,_⟩|⟨b,cur,fz,_,_,_,_,h6,_⟩
   ·cases h6
   ·simpa using h6
  ·intro b hb
   cases hb
   refine⟨List.mem_map.2 ⟨t,htT,rfl⟩,?_⟩
   rw[List.map_append,List.mem_append]
   exact fun hm=>hm.elim hT1 g2.1
  ·intro x hx'
   rw[h1]
   rcases List.mem_append.1 hx' with h6|h6
   ·simp[h6]
   ·simp[h6]
  ·rw[List.map_append,List.nodup_append]
   exact⟨g1,g2.2,fun x h6 y h7=>g3 x h6 y (List.mem_cons_of_mem _ h7)⟩
  ·intro t' ht' hjs
   rw[h5]
   simp[cZ.g,ht',hjs]
  ·intro t' x hx'
   rcases List.mem_append.1 hx' with h6|h6
   ·exact .inr (by simp[h6])
   ·rcases List.mem_cons.1 h6 with h6|h6
    ·exact .inl h6
    ·exact .inr (by simp[h6])
  ·intro t' ht'
   rw[List.map_append,List.mem_append]at ht'
   rw[List.map_append,List.map_cons,List.nodup_append]
   refine⟨g1,List.nodup_cons.2 ⟨fun h6=>ht' (.inr h6),g2.2⟩,fun x h6 y h7=>?_⟩
   rcases List.mem_cons.1 h7 with rfl|h7
   ·exact fun e1=>ht' (.inl (e1▸h6))
   ·exact g3 x h6 y (List.mem_cons_of_mem _ h7)
 ·refine main T [] ⟨none,0,sz⟩ wC (fun t'=>T++[t']) ⟨rfl,Nat.zero_le _,.inl ⟨rfl,rfl,rfl⟩⟩ rfl (Nat.zero_le _) (fun b hb=>by cases hb) (fun t h=>h) B.nd (Nat.zero_le _) h3 h4 ?_ ?_ ?_
  ·intro t' ht' hjs
   rw[h5]
   simp[cZ.g,ht',hjs]
  ·intro t' x hx'
   rcases List.mem_append.1 hx' with h6|h6
   ·exact .inr h6
   ·exact .inl (by simpa using h6)
  ·intro t' ht'
   rw[List.map_append,List.nodup_append]
   refine⟨B.nd,qE,fun x h6 y h7=>?_⟩
   simp at h7
   subst h7
   exact fun e1=>ht' (e1▸h6)
end Go.Lw
namespace Go.Lw
open Go.RowKit
abbrev mpD (row:Nat→List D) (G:Grp):D:= .mp 1 (G.map fun g=>Key.i g.1) fun i=> .sl (G[i]?.getD (0,[])).2.length fun q=>row ((G[i]?.getD (0,[])).2[q]?.getD 0)
theorem GB {k:Int} {x m:Nat}: ∀{G:Grp},(∀g∈G,g.2.length≤m)→ ∀g∈rO G k x,g.2.length≤m+1
 |[],_,g,hg=>by
  simp only[rO,List.mem_singleton]at hg
  subst hg
  simp
 |(k',js)::r,h,g,hg=>by
  simp only[rO]at hg
  split at hg
  ·rcases List.mem_cons.1 hg with rfl|hg
   ·have:=h (k',js) qE
    simp only[List.length_append,List.length_cons,List.length_nil]at this⊢
    omega
   ·have:=h g (by simp[hg])
    omega
  ·rcases List.mem_cons.1 hg with rfl|hg
   ·have:=h (k',js) qE
    simp only at this⊢
    omega
   ·exact GB (fun g h2=>h g (by simp[h2])) g hg
theorem AA (mt:Nat→Bool) (key:Nat→Int): ∀(j:Nat),∀g∈sN mt key j,g.2.length≤j
 |0,g,hg=>by cases hg
 |j+1,g,hg=>by
  simp only[sN]at hg
  cases hm:mt j with
  |true=>
   rw[hm]at hg
   exact GB (AA mt key j) g hg
  |false=>
   rw[hm]at hg
   have:=AA mt key j g hg
   omega
theorem Ng {C:Ctx} (hc:cS C) {e sz:Nat} {row:Nat→List D} {sl:List (Nat×V)} {dm p:Nat} {ob:List (Nat×O)} {T:List cZ} {ok:Nat→Prop} {h:Nat→Hd} {a:Act} {w:World} (B:xX C e sz row (kX sl dm ob) T ok h a w) (hp:look p sl=some (.mp dm)) (hdm:look dm ob=none):
 ∃ok2,Rep C ⟨place p (.d (mpD row (T.map cZ.g))) sl,ob⟩ ok2 h a w∧wB C ⟨place p (.d (mpD row (T.map cZ.g))) sl,ob⟩ h:=by
 have r:=B.rep
 have hm:=r.mem
 obtain⟨bm,es,k1,k2,k3,k4⟩:=hm.obj dm (.cB 1 (dW T)) qaD
 obtain⟨ok2,hok2⟩: ∃ok2:Nat→Prop,ok2=fun b=>ok b∨b∈T.map cZ.b∨b=bm:=⟨_,rfl⟩
 have up: ∀b,ok b→ok2 b:=fun b hb=>by rw[hok2];exact .inl hb
 have hlk: ∀i o,look i ob=some o→i≠dm∧look i (kX sl dm ob (dW T)).aD=some o:=fun i o hi=>by
  have:i≠dm:=fun e=>by rw[e,hdm]at hi;cases hi
  exact⟨this,by simp only[look,if_neg (Ne.symm this)];exact hi⟩
 have hbm:=hm.blk dm (.cB 1 (dW T)) bm qaD k1
 have own0:=B.own
 have hgebm:C.w0.heap.size≤bm:=own0 dm (.cB 1 (dW T)) bm qaD k1
 have hok2ge: ∀b,ok2 b→b<w.heap.size∧ ¬C.zE b∧(C.ok0 b∨C.w0.heap.size≤b):=by
  intro b hb
  rw[hok2]at hb
  have big:b<w.heap.size→C.w0.heap.size≤b→b<w.heap.size∧ ¬C.zE b∧(C.ok0 b∨C.w0.heap.size≤b):=fun h1 h2=>⟨h1,fun hl=>by have:=hc.lt b hl;omega,.inr h2⟩
  rcases hb with hb|hb|hb
  ·exact hm.okb b hb
  ·exact big (B.hid.lt b hb) (B.hid.ge b hb)
  ·subst hb
   exact big hbm.1 hgebm
 have hnot: ∀i o b,look i ob=some o→(h i).blk=some b→ ¬ok2 b:=by
  intro i o b hi hb hx
  obtain⟨h1,h2⟩:=hlk i o hi
  rw[hok2]at hx
  rcases hx with hx|hx|hx
  ·exact(hm.blk i o b h2 hb).2.1 hx
  ·exact B.hid.ne i o b h2 hb hx
  ·subst hx
   exact hm.apart i dm o (.cB 1 (dW T)) b h2 qaD h1 hb k1
 have hrow: ∀t∈T,RdD w ok2 (.sl t.js.length fun q=>row (t.js[q]?.getD 0)) t.val:=by
  intro t ht
  obtain⟨g1,g2,g3⟩:=B.bag t ht
  rcases g3 with⟨g4,_⟩|⟨b,cur,fz,g4,g5,g6,g7,g8,g9,g10⟩
  ·cases g4
  ·cases g4
   simp only at g2 g8 g9
   rw[List.length_map]at g8
   have hes: ∀i,i<t.js.length→(t.js.map row)[i]?=some (row (t.js[i]?.getD 0)):=fun i hi=>by simp[hi]
   have hcur: ∀i k,i<t.js.length→k<sz→cur[i*sz+k]?=some (cur.getD (i*sz+k) undef):=fun i k hi hk=>by
    have:i*sz+k<cur.size:=by
     rw[g9]
     have:(i+1)*sz≤t.cap*sz:=Nat.mul_le_mul_right _ qD
     rw[Nat.add_mul]at this
     omega
    simp[Array.getElem?_eq_getElem this]
   refine .sl _ _ _ _ sz t.b 0 (fun i k=>cur.getD (i*sz+k) undef) g8 g2 (fun _=>⟨rfl,by rw[hok2];exact .inr (.inl (List.mem_map.2 ⟨t,ht,rfl⟩))⟩) (fun i hi=>(g10 i _ (hes i hi)).1) (fun i k hi hk=>?_) (fun i k d hi hk=>?_)
   ·have:=hcur i k hi hk
    simpa[World.cell?,g5]using this
   ·obtain⟨v,h7,h8⟩:=(g10 i _ (hes i hi)).2 k d hk
    have hkl:k<sz:=by rw[←(g10 i _ (hes i hi)).1];exact(List.getElem?_eq_some_iff.1 hk).1
    rw[hcur i k hi hkl]at h7
    cases h7
    exact h8.mono (fun _ _=>rfl) up
 have hval: ∀(i:Nat) (t:cZ),T[i]?=some t→es[i]?=some ⟨(Key.i t.k).val,t.val,i⟩:=by
  intro i t hi
  obtain⟨_,v,h1,h2⟩:=k4 i (.i t.k) (.lit t.val) (by simp[dW,hi])
  cases h2
  exact h1
 have hmp:RdD w ok2 (mpD row (T.map cZ.g)) (.map (some bm)):=by
  refine .mp 1 _ _ bm _ es (fun i=>match T[i]? with|some t=>t.val|none=>undef) (by rw[hok2];exact .inr (.inr rfl)) k2 (by rw[k3];simp[dW]) (fun i k hk=>?_) (fun i hi=>?_)
  ·simp only[List.map_map,List.getElem?_map]at hk
   obtain⟨t,h1,h2⟩:=Option.map_eq_some_iff.1 hk
   subst h2
   refine⟨rfl,?_⟩
   rw[hval i t h1,h1]
   rfl
  ·simp only[List.length_map]at hi
   have h1:T[i]?=some T[i]:=List.getElem?_eq_getElem hi
   have:=hrow T[i] (List.getElem_mem hi)
   simp only[List.getElem?_map,h1,Option.map_some,Option.getD_some]
   exact this
 refine⟨ok2,⟨⟨hm.os,hm.tape,hm.output,hm.size,hm.block,hok2ge,fun i o hi=>?_,fun i o b hi hb=>?_,fun i i' o o' b hi hi' hne hb=>?_⟩,r.defers,r.nt,r.pin,fun i x hx=>?_⟩,fun i o b hi hb=>own0 i o b (hlk i o hi).2 hb⟩
 ·exact(hm.obj i o (hlk i o hi).2).mono (fun _ _=>rfl) up (fun _ _=>rfl)
 ·have:=hm.blk i o b (hlk i o hi).2 hb
  exact⟨this.1,hnot i o b hi hb,this.2.2⟩
 ·exact hm.apart i i' o o' b (hlk i o hi).2 (hlk i' o' hi').2 hne hb
 ·rw[a8]at hx
  split at hx
  ·rename_i e1
   subst e1
   cases hx
   obtain⟨h1,v,h2,h3⟩:=r.slot p _ hp
   refine⟨h1,v,h2,?_⟩
   cases h3 with
   |mp _ b hb=>
    obtain rfl:b=bm:=Option.some.inj (hb.symm.trans k1)
    exact .d _ _ hmp
  ·obtain⟨h1,v,h2,h3⟩:=r.slot i x hx
   exact⟨h1,v,h2,h3.mono (fun _ _=>rfl) up⟩
theorem Nh {C:Ctx} {P:Program} {nt:Nat} (hc:bB C P nt) {body:Code} {Q:Exit→St→Prop} {st:St} (σ σ':List (Nat×Nat)) (sl:Nat→List (Nat×V)) (slX:List (Nat×V)) (ob:List (Nat×O)) (dm p e sz:Nat) (z:List D) (row:Nat→List D) (key:Nat→Int) (mt:Nat→Bool) (n:Nat) (ex:Exit)
 (hlow:st.aD.all (fun p=>decide (p.1<50000))=true) (hσ:σ.all (fun p=>decide (p.2<100000)&&bK p.2 st&&(look p.2 st.aD).isNone&&decide (fJ σ p.2=some p.1))=true)
 (hst:xW σ st=kX (sl 0) dm ob []) (hids:(decide (50000≤dm)&&ob.all fun p=>decide (50000≤p.1))=true)
 (hfr: ∀j,(decide (dm≠60100)&&decide (dm≠60102)&&decide (dm≠60103)&&bK 60100 ⟨sl j,ob⟩&&bK 60102 ⟨sl j,ob⟩&&(look 60100 ob).isNone&&(look 60102 ob).isNone&&(look 60103 ob).isNone)=true)
 (hno: ∀j,j<n→mt j=false→ ∀C':Ctx,bB C' P nt→ ∀L,ewp C' body (fun e' s=>e'= .normal∧s=kX (sl (j+1)) dm ob L) (kX (sl j) dm ob L))
 (hyes: ∀j,j<n→mt j=true→ ∀C':Ctx,bB C' P nt→ ∀(L:List (Key×D)) (v:Value) (js:List Nat),js.length≤j→dT (.lit wC) L (.i (key j))= .lit v→
   ewp C' body (fun e' s=>e'= .normal∧ ∃A cap,s=⟨sl (j+1),(dm,.cB 1 (gB L (.i (key j)) (.lit (.slice A (js.length+1) cap))))::(60100,.own e sz (true,z) (js.map row++[row j]))::(60103,.cD (.os 60100 (js.length+1)) (.slice A (js.length+1) cap))::ob⟩)
    ⟨sl j,(dm,.cB 1 L)::(60100,.own e sz (true,z) (js.map row))::(60102,.cD (.os 60100 js.length) v)::ob⟩)
 (hend: ∀C':Ctx,bB C' P nt→ ∀L,ewp C' body (fun e' s=>e'=ex∧s=kX slX dm ob L) (kX (sl n) dm ob L)) (hex:ex≠ .normal)
 (hp:look p slX=some (.mp dm)) (hdm:(look dm ob).isNone=true)
 (hσ':σ'.all (fun q=>decide (q.2<100000)&&bK q.2 ⟨place p (.d (mpD row (sN mt key n))) slX,ob⟩&&(look q.2 ob).isNone&&decide (fJ σ' q.2=some q.1))=true)
 (hk:Q ex (xW σ' ⟨place p (.d (mpD row (sN mt key n))) slX,ob⟩)):ewp C (.loop body) Q st:=by
 obtain⟨rfl,rfl,hok⟩:=hc
 rintro a w ⟨ok,h,r⟩
 obtain⟨h1,r1,own1⟩:=r.ren σ (IC hok r hlow) hσ
 rw[hst]at r1 own1
 have B0:xX C e sz row (kX (sl 0) dm ob) [] ok h1 a w:={rep:=r1,hid:={lt:=fun b hb=>(List.not_mem_nil hb).elim,ge:=fun b hb=>(List.not_mem_nil hb).elim,no:=fun b hb=>(List.not_mem_nil hb).elim,ne:=fun _ _ b _ _ hb=>(List.not_mem_nil hb).elim},nd:=List.nodup_nil,own:=own1,bag:=fun t ht=>(List.not_mem_nil ht).elim}
 refine wp_loop_ghost (fun m a w=> ∃j T ok h,j≤n∧n-j=m∧xX C e sz row (kX (sl j) dm ob) T ok h a w∧T.map cZ.g=sN mt key j) n ⟨0,[],ok,h1,Nat.zero_le _,rfl,B0,rfl⟩ ?_
 rintro m a w ⟨j,T,ok,h,hj,rfl,B,hT⟩
 by_cases hjn:j<n
 ·cases hm:mt j with
  |false=>
   refine wp_mono (Cr hok B hids .normal fun C' hC'=>hno j hjn hm C' hC' _) ?_
   rintro e' a' w' ⟨rfl,ok',h',B'⟩
   refine⟨n-(j+1),qD,j+1,T,ok',h',qD,rfl,B',?_⟩
   simp only[sN,hm,cond_false]
   exact hT
  |true=>
   refine wp_mono (Nf hok (z:=z) (key j) j j B (fun t ht=>?_) hids (hfr j) fun C' hC'=>hyes j hjn hm C' hC') ?_
   ·exact AA mt key j t.g (by rw[←hT];exact List.mem_map.2 ⟨t,ht,rfl⟩)
   ·rintro e' a' w' ⟨rfl,T',ok',h',B',hT'⟩
    refine⟨n-(j+1),qD,j+1,T',ok',h',qD,rfl,B',?_⟩
    simp only[sN,hm,cond_true]
    rw[hT',hT]
 ·obtain rfl:j=n:=by omega
  refine wp_mono (Cr hok B hids ex fun C' hC'=>hend C' hC' _) ?_
  rintro e' a' w' ⟨rfl,ok',h',B'⟩
  obtain⟨ok2,r2,own2⟩:=Ng hok B' hp (by simpa using hdm)
  rw[hT]at r2 own2
  obtain⟨h3,r3,_⟩:=r2.ren σ' own2 hσ'
  cases e' with
  |normal=>exact absurd rfl hex
  |_=>exact⟨_,hk,ok2,h3,r3⟩
theorem GC {k:Int} {x:Nat} {p:Nat→Prop} (hx:p x): ∀{G:Grp},(∀g∈G,∀y∈g.2,p y)→ ∀g∈rO G k x,∀y∈g.2,p y
 |[],_,g,hg,y,hy=>by
  simp only[rO,List.mem_singleton]at hg
  subst hg
  simp at hy
  subst hy
  exact hx
 |(k',js)::r,h,g,hg,y,hy=>by
  simp only[rO]at hg
  split at hg
  ·rcases List.mem_cons.1 hg with rfl|hg
   ·rcases List.mem_append.1 hy with hy|hy
    ·exact h (k',js) qE y hy
    ·simp at hy
     subst hy
     exact hx
   ·exact h g (by simp[hg]) y hy
  ·rcases List.mem_cons.1 hg with rfl|hg
   ·exact h (k',js) qE y hy
   ·exact GC hx (fun g h2=>h g (by simp[h2])) g hg y hy
theorem GD (mt:Nat→Bool) (key:Nat→Int): ∀(j:Nat),∀g∈sN mt key j,∀y∈g.2,y<j
 |0,g,hg,_,_=>by cases hg
 |j+1,g,hg,y,hy=>by
  have ih: ∀g∈sN mt key j,∀y∈g.2,y<j+1:=fun g h1 y h2=>Nat.lt_succ_of_lt (GD mt key j g h1 y h2)
  simp only[sN]at hg
  cases hm:mt j with
  |true=>
   rw[hm]at hg
   exact GC (p:=fun y=>y<j+1) (Nat.lt_succ_self j) ih g hg y hy
  |false=>
   rw[hm]at hg
   exact ih g hg y hy
theorem JQ (row:Nat→List D) (m:Int): ∀G:Grp,dT (.lit wC) (iD (G.map fun g=>Key.i g.1) fun i=> .sl (G[i]?.getD (0,[])).2.length fun q=>row ((G[i]?.getD (0,[])).2[q]?.getD 0)) (.i m)= .lit wC∨
 ∃g∈G,dT (.lit wC) (iD (G.map fun g=>Key.i g.1) fun i=> .sl (G[i]?.getD (0,[])).2.length fun q=>row ((G[i]?.getD (0,[])).2[q]?.getD 0)) (.i m)= .sl g.2.length fun q=>row (g.2[q]?.getD 0)
 |[]=> .inl rfl
 |g::G=>by
  have hm:iD ((g::G).map fun g=>Key.i g.1) (fun i=> .sl ((g::G)[i]?.getD (0,[])).2.length fun q=>row (((g::G)[i]?.getD (0,[])).2[q]?.getD 0))=(Key.i g.1,.sl g.2.length fun q=>row (g.2[q]?.getD 0))::iD (G.map fun g=>Key.i g.1) (fun i=> .sl (G[i]?.getD (0,[])).2.length fun q=>row ((G[i]?.getD (0,[])).2[q]?.getD 0)):=by
   simp[iD,List.range_succ_eq_map,Function.comp_def]
  rw[hm]
  by_cases h:g.1=m
  ·exact .inr ⟨g,qE,by simp[dT,h]⟩
  ·have h2: ¬Key.i g.1=Key.i m:=fun e=>h (by cases e;rfl)
   simp only[dT,if_neg h2]
   rcases JQ row m G with h3|⟨g',h3,h4⟩
   ·exact .inl h3
   ·exact .inr ⟨g',by simp[h3],h4⟩
theorem gA {C:Ctx} {ops:Array Oper} {fuel:Nat} {listed:Array Bool} {st st2:St} {K:St→Prop} (h2:Option.some st=some st2) (hk:eD C ops fuel listed st2 K):eD C ops fuel listed st K:=by cases h2;exact hk
theorem Ni {C:Ctx} {c:Code} {ex:Exit} {S' st:St} (hx:ewp C c (fun e s=>e=ex∧Le C S' s) st):ewp C c (fun e s=>e=ex∧s=S') st:=fun a w r=>wp_mono (hx a w r) fun _ a' w' ⟨_,⟨h1,h2⟩,h3⟩=>⟨S',⟨h1,rfl⟩,h2 a' w' h3⟩
theorem PP {C:Ctx} {c:Code} {ex:Exit} {S':Option Addr→Nat→St} {st:St} (hx:ewp C c (fun e s=>e=ex∧ ∃A cap,Le C (S' A cap) s) st):ewp C c (fun e s=>e=ex∧ ∃A cap,s=S' A cap) st:=fun a w r=>wp_mono (hx a w r) fun _ a' w' ⟨_,⟨h1,A,cap,h2⟩,h3⟩=>⟨S' A cap,⟨h1,A,cap,rfl⟩,h2 a' w' h3⟩
end Go.Lw
namespace Go.Proofs.YtdjfgcjlnfnfhaaGreatDoor
open Go.Lw Go.RowKit
set_option maxRecDepth 100000
set_option maxHeartbeats 8000000
theorem Nj (n:Nat) (f:Nat→Rc) (id:Bs) (hn:n≤1000) (hf: ∀i,i<n→(f i).Ok):aV Tryz.prog 94 [.sl n fun i=>(f i).row,str id] (fun d=>(∃e:Int,d= .tup [rcZ,int e])∨ ∃r:Rc,d= .tup [r.d,int 0]∧r.nb≤200000):=by
 have hhd: ∀i,∃k:Int,i<n→aJ Tryz.prog 157 [(f i).d,str [110,117,109,98,101,114]] (int k)∧ -1≤k∧(0≤k→k<(f i).nh):=fun i=>by
  by_cases h:i<n
  ·obtain⟨_,⟨k,rfl,hk⟩,hx⟩:=Na (f i) (hf i h).fit.hd [110,117,109,98,101,114]
   exact⟨k,fun _=>⟨hx,hk⟩⟩
  ·exact⟨0,fun h'=>absurd h' h⟩
 obtain⟨hd,hhd⟩:=Classical.axiomOfChoice hhd
 have hky: ∀i,∃m:Nat,i<n→0≤hd i→aJ Tryz.prog 158 [str ((f i).hb (hd i).toNat)] (int m):=fun i=>by
  by_cases h:i<n∧0≤hd i
  ·obtain⟨_,⟨m,rfl,_⟩,hx⟩:=Co ((f i).hb (hd i).toNat) (((hf i h.1).fit.hd.2 _ (by have:=(hhd i h.1).2.2 h.2;omega)).2)
   exact⟨m,fun _ _=>hx⟩
  ·exact⟨0,fun h1 h2=>absurd ⟨h1,h2⟩ h⟩
 obtain⟨key,hkey⟩:=Classical.axiomOfChoice hky
 refine bI Tryz.func94 rfl qC Tryz.ntmps94 _ rfl qE ?_
 repeat' (first|refine Va ?_|(with_reducible refine aB (ht:=fun hb=>?_) (hf:=fun hb=>?_)<;>(try simp at hb))|refine Vn ?_|refine Vl (hG:=?_)|(refine Ve (hf:=M8 n f qD id) (hk:=?_);rintro _ (⟨_,rfl,rfl⟩|⟨j,hj,rfl,hid⟩))|fail)
 ·exact .inl ⟨_,rfl⟩
 ·exact .inl ⟨_,rfl⟩
 obtain⟨r,hr⟩: ∃r,f j=r:=⟨_,rfl⟩
 have hrk:=hf j hj
 simp only[hr]at hid hb hrk⊢
 obtain⟨K,hK,hK1,hK2⟩: ∃K:List (Bs×Bs),K.length=r.nh∧(∀x∈K,x.1.length≤40∧x.2.length≤1000)∧bJ Tryz.prog 156 [.d (hdF r.nh r.ha r.hb)] [] (.os 5 K.length) [(5,SW K)]:=by
  have h:=La r.nh r.ha r.hb (by have:=hrk.hd.1;omega)
  refine⟨(List.range r.nh).map fun i=>(r.ha i,r.hb i),qE,fun x hx=>?_,q8⟩
  obtain⟨i,h1,rfl⟩:=List.mem_map.1 hx
  exact hrk.hd.2 i QR
 obtain⟨M,hM,hM1⟩: ∃M:List UInt8,M.length=r.nb∧bJ Tryz.prog 15 [.d (byF r.nb r.bl)] [] (.os 5 M.length) [(5,K9 M)]:=
  ⟨(List.range r.nb).map r.bl,qE,by simpa using Nd r.nb r.bl (by have:=hrk.nb;omega)⟩
 refine aQ (by
  intro r C hc hh
  refine bA (aG [0,1,4,6] [4,6] qA qA) ?_
  (apply Xd 10 hc;(focus(refine Xp 0 hc (hk:=?_);refine Xp 3 hc (hk:=?_);refine aI 1 [1,2,5,6,7,8,9] hc rfl qC rfl qA qF qE qA ?_;refine Xa [2,4] (hx:=?_);refine⟨?_,?_⟩;(focus(refine Xs ([(5,32)]) (hK2) hc (hk:=?q40);refine aI 4 [4,5,6,7,8,9] hc rfl qC rfl qA qF qE qA ?nq40;refine Xp 6 hc (hk:=?_);refine Xa [5] (hx:=?_);(focus(refine Xs ([(5,35)]) (hM1) hc (hk:=?q41);refine Xa [7] (hx:=?nq41);(focus(refine Xw hc (hk:=?q42);refine Xp 8 hc (hk:=?nq42);refine Xa [9] (hx:=?_);(focus(refine Xw hc (hk:=?q43);refine Xz (hk:=?nq43);exact Xk [0,1,4,6] [4,6,32,35]))))))));(focus(refine Xw hc (hk:=?q44);refine Xa [2] (hx:=?nq44);(focus(refine Xs ([(5,32)]) (hK2) hc (hk:=?q45);refine Xp 6 hc (hk:=?nq45);refine Xa [5] (hx:=?_);(focus(refine Xs ([(5,35)]) (hM1) hc (hk:=?_);exact Xq ?q41)))))))))
  exact hh.get) ?_
 have hH:oI K.length (fun i=>(K[i]?.getD ([],[])).1) (fun i=>(K[i]?.getD ([],[])).2):=⟨by have:=hrk.hd.1;omega,fun i hi=>by
  have:=hK1 _ (List.getElem_mem hi)
  simp only[List.getElem?_eq_getElem hi,Option.getD_some]
  omega⟩
 repeat' (first|refine Va ?_|(with_reducible refine aB (ht:=fun hb=>?_) (hf:=fun hb=>?_)<;>(try simp at hb))|refine Vn ?_|refine Vl (hG:=?_)|(refine Vf (hf:=Na ⟨r.kind,r.id,r.of,r.time,r.key,K.length,fun i=>(K[i]?.getD ([],[])).1,fun i=>(K[i]?.getD ([],[])).2,_,_⟩ hH _) (hfl:=?_) (hk:=?_)<;>rintro _ ⟨k,rfl,hk1,hk2⟩;(·rfl))|fail)
 ·exact .inr ⟨⟨r.kind,r.id,r.of,r.time,r.key,K.length,fun i=>(K[i]?.getD ([],[])).1,fun i=>(K[i]?.getD ([],[])).2,M.length,fun i=>M[i]?.getD 0⟩,rfl,by have:=hrk.nb;simp only;omega⟩
 obtain⟨k,rfl⟩: ∃m:Nat,k=m:=⟨k.toNat,qD⟩
 have hk3:k<K.length:=by have:=hk2 qD;simp only at this;omega
 obtain⟨mt,hmt⟩: ∃mt:Nat→Bool,∀i,mt i=decide ((f i).kind=5∧(f i).of=id∧0≤hd i∧(f i).time=r.time∧(f i).key=r.key):=⟨_,fun _=>rfl⟩
 have hnh:r.nh≤100:=hrk.hd.1
 have hD:=Iy K k hk3 (by have:=hrk.hd.1;omega)
 obtain⟨Kx,hKx⟩: ∃Kx,K.eraseIdx k++[([],[])]=Kx:=⟨_,rfl⟩
 have hKl:Kx.length=K.length:=by rw[←hKx];simp[List.length_eraseIdx,hk3];omega
 have hKb: ∀x∈Kx,x.1.length≤1000000∧x.2.length≤1000000:=fun x hx=>by
  rw[←hKx]at hx
  rcases List.mem_append.1 hx with hx|hx
  ·have:=hK1 x (List.mem_of_mem_eraseIdx hx)
   omega
  ·simp at hx
   subst hx
   simp
 rw[hKx]at hD
 clear hKx
 obtain⟨ks,fD,hmp,hget2⟩: ∃ks fD,mpD (fun i=>(f i).row) (sN mt (fun i=>(key i:Int)) n)= .mp 1 ks fD∧ ∀m:Int,dT (.lit wC) (iD ks fD) (.i m)= .lit wC∨ ∃js:List Nat,(∀x∈js,x<n)∧dT (.lit wC) (iD ks fD) (.i m)= .sl js.length fun q=>(f (js[q]?.getD 0)).row:=by
  refine⟨_,_,rfl,fun m=>?_⟩
  rcases JQ (fun i=>(f i).row) m (sN mt (fun i=>(key i:Int)) n)with h|⟨g,h1,h2⟩
  ·exact .inl h
  ·exact .inr ⟨g.2,fun x hx=>GD mt _ n g h1 x hx,h2⟩
 have hv:((K[((k:Nat):Int).toNat]?.getD ([],[])).2).length≤1000000:=by have:=(hH.2 k hk3).2;simpa using this
 repeat' (first|refine Va ?_|(with_reducible refine aB (ht:=fun hb=>?_) (hf:=fun hb=>?_)<;>(try simp at hb))|refine Vn ?_|refine Vl (hG:=?_)|(refine Ve (hf:=Co _ hv) (hk:=?_);rintro _ ⟨many,rfl,hmany⟩)|(refine Vm ([(50001,32)]) (hf:=hD.mx) (hk:=?_);rintro _ _ ⟨⟩;refine⟨_,_,qE,qA,qA,?_⟩)|fail)
 ·exact .inl ⟨_,rfl⟩
 refine aQ (by
  intro r' C hc hh
  refine bA (aG [1,4,6,9,10,61,62,63] [60,4,6,32,35] qA qA) ?_
  refine Nh hc [(4,60004),(6,60006),(32,60032),(35,60035),(60,60060)] [(60004,4),(60006,6),(60032,32),(60035,35)]
   (fun i=>[(1,.d (str id)),(4,.bp 60004 0),(6,.bp 60006 0),(9,.d (int many)),(10,.mp 60060),(61,.d (.sl n fun i=>(f i).row)),(62,.d (int n)),(63,.d (int (i:Nat)))])
   [(1,.d (str id)),(4,.bp 60004 0),(6,.bp 60006 0),(9,.d (int many)),(10,.mp 60060),(61,.d (.sl n fun i=>(f i).row)),(62,.d (int n)),(63,.d (int n))]
   [(60004,.box 183 [.d (int 0),.d (str []),.d (str []),.d (int 0),.d (str []),.d (.lit (.slice none 0 0)),.d (.lit (.slice none 0 0))]),(60006,.box 183 [.d (int r.kind),.d (str r.id),.d (str r.of),.d (int r.time),.d (str r.key),.os 60032 (K.length-1),.os 60035 M.length]),(60032,.own 256 2 (true,[str [],str []]) (Kx.map iU)),(60035,K9 M)]
   60060 10 183 7 rc0.row (fun i=>(f i).row) (fun i=>(key i:Int)) mt n (.exit 0) qE qE (by simp[xW]) qE (fun j=>by simp) ?_ ?_ ?_ qE qE qE qE ?_
  ·intro i hi hm C hc L
   obtain⟨e1,e2,e3⟩:=hhd i hi
   rw[hmt]at hm
   refine Ni ?_
   repeat' (first|refine Wd ?_|(refine Wc ?_ ?_<;>intro hb<;>try simp at hb)|refine Zw hc (hf:=by exact e1) (hk:=?_)|refine Zq hc (hf:=by exact e1) (hk:=?_)|refine Wm ?_|fail)
   all_goals try(exfalso;omega)
   all_goals try(exfalso;simp_all;done)
   exact⟨rfl,aC [1,4,6,9,10,61,62,63] [60060,60004,60006,60032,60035] qA qA qE⟩
  ·intro i hi hm C hc L v js hjs hget
   obtain⟨e1,e2,e3⟩:=hhd i hi
   rw[hmt]at hm
   have hm':=of_decide_eq_true hm
   have e4:=hkey i hi hm'.2.2.1
   have e0:=hm'.2.2.1
   have e5:=e3 e0
   refine PP ?_
   repeat' (first|refine Wd ?_|(refine Wc ?_ ?_<;>intro hb<;>try simp at hb)|refine Zw hc (hf:=by exact e1) (hk:=?_)|refine Zq hc (hf:=by exact e1) (hk:=?_)|refine Wm ?_|fail)
   all_goals try(exfalso;omega)
   all_goals try(exfalso;simp_all;done)
   refine bA (aG [1,4,6,9,10,12,13,61,62,63] [12,60060,60100,60102,60004,60006,60032,60035] qA qA) ?_
   (apply DB 21 hc qC rfl;(focus(refine Xm 0 hc (hk:=?_);refine Xp 1 hc (hk:=?_);refine Xm 3 hc (hk:=?_);refine Xm 8 hc (hk:=?_);refine Xp 9 hc (hk:=?_);refine Xm 11 hc (hk:=?_);refine Xa [2,10,17] (hx:=?_);refine⟨?_,?_,?_⟩;(focus(refine Xw hc (hk:=?qb180);refine Xa [4,10,17] (hx:=?nqb180);refine⟨?_,?_,?_⟩;(focus(refine Xw hc (hk:=?qb181);refine Xa [5,10,17] (hx:=?nqb181);refine⟨?_,?_,?_⟩;(focus(refine Xw hc (hk:=?qb182);refine Xa [6,10,17] (hx:=?nqb182);refine⟨?_,?_,?_⟩;(focus(refine Xw hc (hk:=?qb183);refine Xa [7,10,17] (hx:=?nqb183);refine⟨?_,?_,?_⟩;(focus(refine Xc hc (hf:=e4) (hk:=?qb184);refine Xa [10,17] (hx:=?nqb184);refine⟨?_,?_⟩;(focus(refine Xw hc (hk:=?qb185);refine Xa [12,17] (hx:=?nqb185);refine⟨?_,?_⟩;(focus(refine Xw hc (hk:=?qb186);refine Xa [13,17] (hx:=?nqb186);refine⟨?_,?_⟩;(focus(refine Xw hc (hk:=?qb187);refine Xa [14,17] (hx:=?nqb187);refine⟨?_,?_⟩;(focus(refine Xw hc (hk:=?qb188);refine Xa [15,17] (hx:=?nqb188);refine⟨?_,?_⟩;(focus(refine Xc hc (hf:=e4) (hk:=?qb189);refine Xa [16,17] (hx:=?nqb189);refine⟨?_,?_⟩;(focus(refine Xw hc (hk:=?_);refine nP 60102 112 (by simp[hget];exact aA.mk) qA qA ?qb1810;refine aI 17 [17,18,19,20] hc rfl qC rfl qA qF qE qA ?nqb1810;refine Xa [18] (hx:=?_);(focus(refine Xw hc (hk:=?qb1811);refine Xa [19] (hx:=?nqb1811);(focus(refine Xw hc (hk:=?qb1812);refine IB 60103 115 (by simp;exact⟨rfl,rfl⟩) qK qE qE qK (fun A cap=>?nqb1812);refine Xa [20] (hx:=?_);(focus(refine Xw hc (hk:=?qb1813);refine Xz (hk:=?nqb1813);(repeat' (first|refine Wd ?_|(refine Wc ?_ ?_<;>intro hb<;>try simp at hb)|refine Wm ?_|fail));exact⟨rfl,A,cap,aC [1,4,6,9,10,61,62,63] [60060,60100,60103,60004,60006,60032,60035] qA qA qE⟩))))))));(focus(refine Xw hc (hk:=?qb1814);refine Xa [16,18] (hx:=?nqb1814);refine⟨?_,?_⟩;(focus(refine Xw hc (hk:=?_);refine nP 60102 112 (by simp[hget];exact aA.mk) qA qA ?qb1815;refine Xa [18] (hx:=?nqb1815);(focus(refine Xw hc (hk:=?_);exact Xq ?qb1811))));(focus(refine Xw hc (hk:=?qb1816);refine Xa [16] (hx:=?nqb1816);(focus(refine Xw hc (hk:=?_);refine nP 60102 112 (by simp[hget];exact aA.mk) qA qA ?_;exact Xq ?qb1811))))))));(focus(refine Xw hc (hk:=?qb1817);refine Xa [15,18] (hx:=?nqb1817);refine⟨?_,?_⟩;(focus(refine Xc hc (hf:=e4) (hk:=?_);exact Xq ?qb1814));(focus(refine Xw hc (hk:=?qb1818);refine Xa [15] (hx:=?nqb1818);(focus(refine Xc hc (hf:=e4) (hk:=?_);exact Xq ?qb1816))))))));(focus(refine Xw hc (hk:=?qb1819);refine Xa [14,18] (hx:=?nqb1819);refine⟨?_,?_⟩;(focus(refine Xw hc (hk:=?_);exact Xq ?qb1817));(focus(refine Xw hc (hk:=?qb1820);refine aI 14 [14,15,16,19,20] hc rfl qC rfl qA qF qE qA ?nqb1820;refine Xa [15] (hx:=?_);(focus(refine Xc hc (hf:=e4) (hk:=?_);exact Xq ?qb1816))))))));(focus(refine Xw hc (hk:=?qb1821);refine Xa [13,18] (hx:=?nqb1821);refine⟨?_,?_⟩;(focus(refine Xw hc (hk:=?_);exact Xq ?qb1819));(focus(refine Xw hc (hk:=?qb1822);refine Xa [13] (hx:=?nqb1822);(focus(refine Xw hc (hk:=?_);exact Xq ?qb1820))))))));(focus(refine Xw hc (hk:=?qb1823);refine Xa [12,18] (hx:=?nqb1823);refine⟨?_,?_⟩;(focus(refine Xw hc (hk:=?_);exact Xq ?qb1821));(focus(refine Xw hc (hk:=?qb1824);refine Xa [12] (hx:=?nqb1824);(focus(refine Xw hc (hk:=?_);exact Xq ?qb1822))))))));(focus(refine Xw hc (hk:=?qb1825);refine Xa [10,18] (hx:=?nqb1825);refine⟨?_,?_⟩;(focus(refine Xw hc (hk:=?_);exact Xq ?qb1823));(focus(refine Xw hc (hk:=?qb1826);refine aI 10 [10,12,13,14,15,16,19,20] hc rfl qC rfl qA qF qE qA ?nqb1826;refine Xa [12] (hx:=?_);(focus(refine Xw hc (hk:=?_);exact Xq ?qb1822))))))));(focus(refine Xw hc (hk:=?qb1827);refine Xa [7,12,17] (hx:=?nqb1827);refine⟨?_,?_,?_⟩;(focus(refine Xc hc (hf:=e4) (hk:=?_);exact Xq ?qb185));(focus(refine Xw hc (hk:=?qb1828);refine Xa [7,13,17] (hx:=?nqb1828);refine⟨?_,?_,?_⟩;(focus(refine Xc hc (hf:=e4) (hk:=?_);exact Xq ?qb186));(focus(refine Xw hc (hk:=?qb1829);refine Xa [7,14,17] (hx:=?nqb1829);refine⟨?_,?_,?_⟩;(focus(refine Xc hc (hf:=e4) (hk:=?_);exact Xq ?qb187));(focus(refine Xw hc (hk:=?qb1830);refine Xa [7,17] (hx:=?nqb1830);refine⟨?_,?_⟩;(focus(refine Xc hc (hf:=e4) (hk:=?_);exact Xq ?qb188));(focus(refine Xw hc (hk:=?qb1831);refine Xa [7,18] (hx:=?nqb1831);refine⟨?_,?_⟩;(focus(refine Xc hc (hf:=e4) (hk:=?_);exact Xq ?qb1817));(focus(refine Xw hc (hk:=?qb1832);refine Xa [7] (hx:=?nqb1832);(focus(refine Xc hc (hf:=e4) (hk:=?_);exact Xq ?qb1818))))))));(focus(refine Xw hc (hk:=?qb1833);refine Xa [7,14,18] (hx:=?nqb1833);refine⟨?_,?_,?_⟩;(focus(refine Xc hc (hf:=e4) (hk:=?_);exact Xq ?qb1819));(focus(refine Xw hc (hk:=?_);exact Xq ?qb1831));(focus(refine Xw hc (hk:=?qb1834);refine Xa [7,14] (hx:=?nqb1834);refine⟨?_,?_⟩;(focus(refine Xc hc (hf:=e4) (hk:=?_);exact Xq ?qb1820));(focus(refine Xw hc (hk:=?_);exact Xq ?qb1832))))))));(focus(refine Xw hc (hk:=?qb1835);refine Xa [7,13,18] (hx:=?nqb1835);refine⟨?_,?_,?_⟩;(focus(refine Xc hc (hf:=e4) (hk:=?_);exact Xq ?qb1821));(focus(refine Xw hc (hk:=?_);exact Xq ?qb1833));(focus(refine Xw hc (hk:=?qb1836);refine Xa [7,13] (hx:=?nqb1836);refine⟨?_,?_⟩;(focus(refine Xc hc (hf:=e4) (hk:=?_);exact Xq ?qb1822));(focus(refine Xw hc (hk:=?_);exact Xq ?qb1834))))))));(focus(refine Xw hc (hk:=?qb1837);refine Xa [7,12,18] (hx:=?nqb1837);refine⟨?_,?_,?_⟩;(focus(refine Xc hc (hf:=e4) (hk:=?_);exact Xq ?qb1823));(focus(refine Xw hc (hk:=?_);exact Xq ?qb1835));(focus(refine Xw hc (hk:=?qb1838);refine Xa [7,12] (hx:=?nqb1838);refine⟨?_,?_⟩;(focus(refine Xc hc (hf:=e4) (hk:=?_);exact Xq ?qb1824));(focus(refine Xw hc (hk:=?_);exact Xq ?qb1836))))))));(focus(refine Xw hc (hk:=?qb1839);refine Xa [7,10,18] (hx:=?nqb1839);refine⟨?_,?_,?_⟩;(focus(refine Xc hc (hf:=e4) (hk:=?_);exact Xq ?qb1825));(focus(refine Xw hc (hk:=?_);exact Xq ?qb1837));(focus(refine Xw hc (hk:=?qb1840);refine Xa [7,10] (hx:=?nqb1840);refine⟨?_,?_⟩;(focus(refine Xc hc (hf:=e4) (hk:=?_);exact Xq ?qb1826));(focus(refine Xw hc (hk:=?_);exact Xq ?qb1838))))))));(focus(refine Xw hc (hk:=?qb1841);refine Xa [6,12,17] (hx:=?nqb1841);refine⟨?_,?_,?_⟩;(focus(refine Xw hc (hk:=?_);exact Xq ?qb1827));(focus(refine Xw hc (hk:=?qb1842);refine Xa [6,13,17] (hx:=?nqb1842);refine⟨?_,?_,?_⟩;(focus(refine Xw hc (hk:=?_);exact Xq ?qb1828));(focus(refine Xw hc (hk:=?qb1843);refine Xa [6,14,17] (hx:=?nqb1843);refine⟨?_,?_,?_⟩;(focus(refine Xw hc (hk:=?_);exact Xq ?qb1829));(focus(refine Xw hc (hk:=?qb1844);refine Xa [6,17] (hx:=?nqb1844);refine⟨?_,?_⟩;(focus(refine Xw hc (hk:=?_);exact Xq ?qb1830));(focus(refine Xw hc (hk:=?qb1845);refine Xa [6,18] (hx:=?nqb1845);refine⟨?_,?_⟩;(focus(refine Xw hc (hk:=?_);exact Xq ?qb1831));(focus(refine Xw hc (hk:=?qb1846);refine aI 6 [6,7,15,16,19,20] hc rfl qC rfl qA qF qE qA ?nqb1846;refine Xa [7] (hx:=?_);(focus(refine Xc hc (hf:=e4) (hk:=?_);exact Xq ?qb1818))))))));(focus(refine Xw hc (hk:=?qb1847);refine Xa [6,14,18] (hx:=?nqb1847);refine⟨?_,?_,?_⟩;(focus(refine Xw hc (hk:=?_);exact Xq ?qb1833));(focus(refine Xw hc (hk:=?_);exact Xq ?qb1845));(focus(refine Xw hc (hk:=?qb1848);refine aI 6 [6,7,15,16,19,20] hc rfl qC rfl qA qF qE qA ?nqb1848;refine Xa [7,14] (hx:=?_);refine⟨?_,?_⟩;(focus(refine Xc hc (hf:=e4) (hk:=?_);exact Xq ?qb1820));(focus(refine Xw hc (hk:=?_);exact Xq ?qb1832))))))));(focus(refine Xw hc (hk:=?qb1849);refine Xa [6,13,18] (hx:=?nqb1849);refine⟨?_,?_,?_⟩;(focus(refine Xw hc (hk:=?_);exact Xq ?qb1835));(focus(refine Xw hc (hk:=?_);exact Xq ?qb1847));(focus(refine Xw hc (hk:=?qb1850);refine Xa [6,13] (hx:=?nqb1850);refine⟨?_,?_⟩;(focus(refine Xw hc (hk:=?_);exact Xq ?qb1836));(focus(refine Xw hc (hk:=?_);exact Xq ?qb1848))))))));(focus(refine Xw hc (hk:=?qb1851);refine Xa [6,12,18] (hx:=?nqb1851);refine⟨?_,?_,?_⟩;(focus(refine Xw hc (hk:=?_);exact Xq ?qb1837));(focus(refine Xw hc (hk:=?_);exact Xq ?qb1849));(focus(refine Xw hc (hk:=?qb1852);refine Xa [6,12] (hx:=?nqb1852);refine⟨?_,?_⟩;(focus(refine Xw hc (hk:=?_);exact Xq ?qb1838));(focus(refine Xw hc (hk:=?_);exact Xq ?qb1850))))))));(focus(refine Xw hc (hk:=?qb1853);refine Xa [6,10,18] (hx:=?nqb1853);refine⟨?_,?_,?_⟩;(focus(refine Xw hc (hk:=?_);exact Xq ?qb1839));(focus(refine Xw hc (hk:=?_);exact Xq ?qb1851));(focus(refine Xw hc (hk:=?qb1854);refine Xa [6,10] (hx:=?nqb1854);refine⟨?_,?_⟩;(focus(refine Xw hc (hk:=?_);exact Xq ?qb1840));(focus(refine Xw hc (hk:=?_);exact Xq ?qb1852))))))));(focus(refine Xw hc (hk:=?qb1855);refine Xa [5,12,17] (hx:=?nqb1855);refine⟨?_,?_,?_⟩;(focus(refine Xw hc (hk:=?_);exact Xq ?qb1841));(focus(refine Xw hc (hk:=?qb1856);refine Xa [5,13,17] (hx:=?nqb1856);refine⟨?_,?_,?_⟩;(focus(refine Xw hc (hk:=?_);exact Xq ?qb1842));(focus(refine Xw hc (hk:=?qb1857);refine Xa [5,14,17] (hx:=?nqb1857);refine⟨?_,?_,?_⟩;(focus(refine Xw hc (hk:=?_);exact Xq ?qb1843));(focus(refine Xw hc (hk:=?qb1858);refine Xa [5,17] (hx:=?nqb1858);refine⟨?_,?_⟩;(focus(refine Xw hc (hk:=?_);exact Xq ?qb1844));(focus(refine Xw hc (hk:=?qb1859);refine Xa [5,18] (hx:=?nqb1859);refine⟨?_,?_⟩;(focus(refine Xw hc (hk:=?_);exact Xq ?qb1845));(focus(refine Xw hc (hk:=?qb1860);refine Xa [5] (hx:=?nqb1860);(focus(refine Xw hc (hk:=?_);exact Xq ?qb1846))))))));(focus(refine Xw hc (hk:=?qb1861);refine Xa [5,14,18] (hx:=?nqb1861);refine⟨?_,?_,?_⟩;(focus(refine Xw hc (hk:=?_);exact Xq ?qb1847));(focus(refine Xw hc (hk:=?_);exact Xq ?qb1859));(focus(refine Xw hc (hk:=?qb1862);refine Xa [5,14] (hx:=?nqb1862);refine⟨?_,?_⟩;(focus(refine Xw hc (hk:=?_);exact Xq ?qb1848));(focus(refine Xw hc (hk:=?_);exact Xq ?qb1860))))))));(focus(refine Xw hc (hk:=?qb1863);refine Xa [5,13,18] (hx:=?nqb1863);refine⟨?_,?_,?_⟩;(focus(refine Xw hc (hk:=?_);exact Xq ?qb1849));(focus(refine Xw hc (hk:=?_);exact Xq ?qb1861));(focus(refine Xw hc (hk:=?qb1864);refine Xa [5,13] (hx:=?nqb1864);refine⟨?_,?_⟩;(focus(refine Xw hc (hk:=?_);exact Xq ?qb1850));(focus(refine Xw hc (hk:=?_);exact Xq ?qb1862))))))));(focus(refine Xw hc (hk:=?qb1865);refine Xa [5,12,18] (hx:=?nqb1865);refine⟨?_,?_,?_⟩;(focus(refine Xw hc (hk:=?_);exact Xq ?qb1851));(focus(refine Xw hc (hk:=?_);exact Xq ?qb1863));(focus(refine Xw hc (hk:=?qb1866);refine Xa [5,12] (hx:=?nqb1866);refine⟨?_,?_⟩;(focus(refine Xw hc (hk:=?_);exact Xq ?qb1852));(focus(refine Xw hc (hk:=?_);exact Xq ?qb1864))))))));(focus(refine Xw hc (hk:=?qb1867);refine Xa [5,10,18] (hx:=?nqb1867);refine⟨?_,?_,?_⟩;(focus(refine Xw hc (hk:=?_);exact Xq ?qb1853));(focus(refine Xw hc (hk:=?_);exact Xq ?qb1865));(focus(refine Xw hc (hk:=?qb1868);refine Xa [5,10] (hx:=?nqb1868);refine⟨?_,?_⟩;(focus(refine Xw hc (hk:=?_);exact Xq ?qb1854));(focus(refine Xw hc (hk:=?_);exact Xq ?qb1866))))))));(focus(refine Xw hc (hk:=?qb1869);refine Xa [4,12,17] (hx:=?nqb1869);refine⟨?_,?_,?_⟩;(focus(refine Xw hc (hk:=?_);exact Xq ?qb1855));(focus(refine Xw hc (hk:=?qb1870);refine Xa [4,13,17] (hx:=?nqb1870);refine⟨?_,?_,?_⟩;(focus(refine Xw hc (hk:=?_);exact Xq ?qb1856));(focus(refine Xw hc (hk:=?qb1871);refine Xa [4,14,17] (hx:=?nqb1871);refine⟨?_,?_,?_⟩;(focus(refine Xw hc (hk:=?_);exact Xq ?qb1857));(focus(refine Xw hc (hk:=?qb1872);refine Xa [4,17] (hx:=?nqb1872);refine⟨?_,?_⟩;(focus(refine Xw hc (hk:=?_);exact Xq ?qb1858));(focus(refine Xw hc (hk:=?qb1873);refine Xa [4,18] (hx:=?nqb1873);refine⟨?_,?_⟩;(focus(refine Xw hc (hk:=?_);exact Xq ?qb1859));(focus(refine Xw hc (hk:=?qb1874);refine Xa [4] (hx:=?nqb1874);(focus(refine Xw hc (hk:=?_);exact Xq ?qb1860))))))));(focus(refine Xw hc (hk:=?qb1875);refine Xa [4,14,18] (hx:=?nqb1875);refine⟨?_,?_,?_⟩;(focus(refine Xw hc (hk:=?_);exact Xq ?qb1861));(focus(refine Xw hc (hk:=?_);exact Xq ?qb1873));(focus(refine Xw hc (hk:=?qb1876);refine Xa [4,14] (hx:=?nqb1876);refine⟨?_,?_⟩;(focus(refine Xw hc (hk:=?_);exact Xq ?qb1862));(focus(refine Xw hc (hk:=?_);exact Xq ?qb1874))))))));(focus(refine Xw hc (hk:=?qb1877);refine Xa [4,13,18] (hx:=?nqb1877);refine⟨?_,?_,?_⟩;(focus(refine Xw hc (hk:=?_);exact Xq ?qb1863));(focus(refine Xw hc (hk:=?_);exact Xq ?qb1875));(focus(refine Xw hc (hk:=?qb1878);refine Xa [4,13] (hx:=?nqb1878);refine⟨?_,?_⟩;(focus(refine Xw hc (hk:=?_);exact Xq ?qb1864));(focus(refine Xw hc (hk:=?_);exact Xq ?qb1876))))))));(focus(refine Xw hc (hk:=?qb1879);refine Xa [4,12,18] (hx:=?nqb1879);refine⟨?_,?_,?_⟩;(focus(refine Xw hc (hk:=?_);exact Xq ?qb1865));(focus(refine Xw hc (hk:=?_);exact Xq ?qb1877));(focus(refine Xw hc (hk:=?qb1880);refine Xa [4,12] (hx:=?nqb1880);refine⟨?_,?_⟩;(focus(refine Xw hc (hk:=?_);exact Xq ?qb1866));(focus(refine Xw hc (hk:=?_);exact Xq ?qb1878))))))));(focus(refine Xw hc (hk:=?qb1881);refine Xa [4,10,18] (hx:=?nqb1881);refine⟨?_,?_,?_⟩;(focus(refine Xw hc (hk:=?_);exact Xq ?qb1867));(focus(refine Xw hc (hk:=?_);exact Xq ?qb1879));(focus(refine Xw hc (hk:=?qb1882);refine Xa [4,10] (hx:=?nqb1882);refine⟨?_,?_⟩;(focus(refine Xw hc (hk:=?_);exact Xq ?qb1868));(focus(refine Xw hc (hk:=?_);exact Xq ?qb1880))))))));(focus(refine Xw hc (hk:=?qb1883);refine Xa [2,12,17] (hx:=?nqb1883);refine⟨?_,?_,?_⟩;(focus(refine Xw hc (hk:=?_);exact Xq ?qb1869));(focus(refine Xw hc (hk:=?qb1884);refine Xa [2,13,17] (hx:=?nqb1884);refine⟨?_,?_,?_⟩;(focus(refine Xw hc (hk:=?_);exact Xq ?qb1870));(focus(refine Xw hc (hk:=?qb1885);refine Xa [2,14,17] (hx:=?nqb1885);refine⟨?_,?_,?_⟩;(focus(refine Xw hc (hk:=?_);exact Xq ?qb1871));(focus(refine Xw hc (hk:=?qb1886);refine Xa [2,17] (hx:=?nqb1886);refine⟨?_,?_⟩;(focus(refine Xw hc (hk:=?_);exact Xq ?qb1872));(focus(refine Xw hc (hk:=?qb1887);refine Xa [2,18] (hx:=?nqb1887);refine⟨?_,?_⟩;(focus(refine Xw hc (hk:=?_);exact Xq ?qb1873));(focus(refine Xw hc (hk:=?qb1888);refine aI 2 [2,4,5,6,7,15,16,19,20] hc rfl qC rfl qA qF qE qA ?nqb1888;refine Xa [4] (hx:=?_);(focus(refine Xw hc (hk:=?_);exact Xq ?qb1860))))))));(focus(refine Xw hc (hk:=?qb1889);refine Xa [2,14,18] (hx:=?nqb1889);refine⟨?_,?_,?_⟩;(focus(refine Xw hc (hk:=?_);exact Xq ?qb1875));(focus(refine Xw hc (hk:=?_);exact Xq ?qb1887));(focus(refine Xw hc (hk:=?qb1890);refine aI 2 [2,4,5,6,7,15,16,19,20] hc rfl qC rfl qA qF qE qA ?nqb1890;refine Xa [4,14] (hx:=?_);refine⟨?_,?_⟩;(focus(refine Xw hc (hk:=?_);exact Xq ?qb1862));(focus(refine Xw hc (hk:=?_);exact Xq ?qb1874))))))));(focus(refine Xw hc (hk:=?qb1891);refine Xa [2,13,18] (hx:=?nqb1891);refine⟨?_,?_,?_⟩;(focus(refine Xw hc (hk:=?_);exact Xq ?qb1877));(focus(refine Xw hc (hk:=?_);exact Xq ?qb1889));(focus(refine Xw hc (hk:=?qb1892);refine Xa [2,13] (hx:=?nqb1892);refine⟨?_,?_⟩;(focus(refine Xw hc (hk:=?_);exact Xq ?qb1878));(focus(refine Xw hc (hk:=?_);exact Xq ?qb1890))))))));(focus(refine Xw hc (hk:=?qb1893);refine Xa [2,12,18] (hx:=?nqb1893);refine⟨?_,?_,?_⟩;(focus(refine Xw hc (hk:=?_);exact Xq ?qb1879));(focus(refine Xw hc (hk:=?_);exact Xq ?qb1891));(focus(refine Xw hc (hk:=?qb1894);refine Xa [2,12] (hx:=?nqb1894);refine⟨?_,?_⟩;(focus(refine Xw hc (hk:=?_);exact Xq ?qb1880));(focus(refine Xw hc (hk:=?_);exact Xq ?qb1892))))))));(focus(refine Xw hc (hk:=?qb1895);refine Xa [2,10,18] (hx:=?nqb1895);refine⟨?_,?_,?_⟩;(focus(refine Xw hc (hk:=?_);exact Xq ?qb1881));(focus(refine Xw hc (hk:=?_);exact Xq ?qb1893));(focus(refine Xw hc (hk:=?qb1896);refine Xa [2,10] (hx:=?nqb1896);refine⟨?_,?_⟩;(focus(refine Xw hc (hk:=?_);exact Xq ?qb1882));(focus(refine Xw hc (hk:=?_);exact Xq ?qb1894)))))))))
  ·intro C hc L
   refine Ni ?_
   repeat' (first|refine Wd ?_|(refine Wc ?_ ?_<;>intro hb<;>try simp at hb)|refine Wm ?_|fail)
   all_goals try(exfalso;omega)
   exact⟨rfl,aC [1,4,6,9,10,61,62,63] [60060,60004,60006,60032,60035] qA qA qE⟩
  ·rw[show xW [(60004,4),(60006,6),(60032,32),(60035,35)] ⟨place 10 (.d (mpD (fun i=>(f i).row) (sN mt (fun i=>(key i:Int)) n))) [(1,.d (str id)),(4,.bp 60004 0),(6,.bp 60006 0),(9,.d (int many)),(10,.mp 60060),(61,.d (.sl n fun i=>(f i).row)),(62,.d (int n)),(63,.d (int n))],[(60004,.box 183 [.d (int 0),.d (str []),.d (str []),.d (int 0),.d (str []),.d (.lit (.slice none 0 0)),.d (.lit (.slice none 0 0))]),(60006,.box 183 [.d (int r.kind),.d (str r.id),.d (str r.of),.d (int r.time),.d (str r.key),.os 60032 (K.length-1),.os 60035 M.length]),(60032,.own 256 2 (true,[str [],str []]) (Kx.map iU)),(60035,K9 M)]⟩=
    (⟨[(1,.d (str id)),(4,.bp 4 0),(6,.bp 6 0),(9,.d (int many)),(10,.d (.mp 1 ks fD)),(61,.d (.sl n fun i=>(f i).row)),(62,.d (int n)),(63,.d (int n))],[(4,.box 183 [.d (int 0),.d (str []),.d (str []),.d (int 0),.d (str []),.d (.lit (.slice none 0 0)),.d (.lit (.slice none 0 0))]),(6,.box 183 [.d (int r.kind),.d (str r.id),.d (str r.of),.d (int r.time),.d (str r.key),.os 32 (K.length-1),.os 35 M.length]),(32,.own 256 2 (true,[str [],str []]) (Kx.map iU)),(35,K9 M)]⟩:St)from by rw[hmp];simp[xW]]
   exact hh.get) ?_
 repeat' (first|refine Va ?_|(with_reducible refine aB (ht:=fun hb=>?_) (hf:=fun hb=>?_)<;>(try simp at hb))|refine Vn ?_|refine Vl (hG:=?_)|fail)
 have hnb:=hrk.nb
 refine dP [] [4,6,9,10,14] [4,6,32,35] (fun x:Nat×List UInt8=>[(14,.d (int x.1))]) (fun x=>[(6,.box 183 [.d (int r.kind),.d (str r.id),.d (str r.of),.d (int r.time),.d (str r.key),.os 32 (K.length-1),.os 35 x.2.length]),(35,K9 x.2)]) (fun x=>2≤x.1∧x.1≤many+1∧x.2.length≤200000*x.1) (fun x=>many+1-x.1) (2,M) qI ?_
 rintro L hL ⟨m,N⟩ ⟨h1,h2,h3⟩ ih
 simp only at h1 h2 h3 ih⊢
 have hH2:oI (K.length-1) (fun i=>(Kx[i]?.getD ([],[])).1) (fun i=>(Kx[i]?.getD ([],[])).2):=⟨qD,fun i hi=>by
  simp only
  rw[List.getElem?_eq_getElem qD]
  exact hKb _ (List.getElem_mem _)⟩
 by_cases hm:m≤many
 ·repeat' (first|refine Va ?_|(with_reducible refine aB (ht:=fun hb=>?_) (hf:=fun hb=>?_)<;>(try simp at hb))|refine Vn ?_|refine Vl (hG:=?_)|fail)
  all_goals try(exfalso;omega)
  rcases hget2 m with h|⟨js,hj,h⟩
  ·refine aQ (by
    intro r C hc hh
    refine dE hc (by simp[h];exact Ends.go) qE ?_
    exact hh.get) ?_
   repeat' (first|refine Va ?_|(with_reducible refine aB (ht:=fun hb=>?_) (hf:=fun hb=>?_)<;>(try simp at hb))|refine Vn ?_|refine Vl (hG:=?_)|fail)
   all_goals try contradiction
   exact .inl ⟨_,rfl⟩
  ·refine aQ (by
    intro r C hc hh
    refine dE hc (by simp[h];exact Ends.go) qE ?_
    exact hh.get) ?_
   repeat' (first|refine Va ?_|(with_reducible refine aB (ht:=fun hb=>?_) (hf:=fun hb=>?_)<;>(try simp at hb))|refine Vn ?_|refine Vl (hG:=?_)|fail)
   ·exact .inl ⟨_,rfl⟩
   obtain⟨x,rfl⟩: ∃x,js=[x]:=List.length_eq_one_iff.1 qD
   have hx:=(hf x (hj x qE)).nb
   refine aQ (by
    intro r C hc hh
    refine bA (aG [4,6,9,10,14] [4,6,32,35] qA qA) ?_
    (apply Xd 11 hc;(focus(refine Xp 0 hc (hk:=?_);refine Xm 2 hc (hk:=?_);refine Xm 3 hc (hk:=?_);refine Xa [1,4] (hx:=?_);refine⟨?_,?_⟩;(focus(refine Xw hc (hk:=?qc250);refine Xa [4] (hx:=?nqc250);(focus(refine Xw hc (hk:=?_);refine gA (by simp only[h,List.length_cons,List.length_nil];rfl) ?qc251;refine Xa [5] (hx:=?nqc251);(focus(refine Xw hc (hk:=?qc252);refine Xa [6] (hx:=?nqc252);(focus(refine Xw hc (hk:=?qc253);refine aI 7 [7,8,9,10] hc rfl qC rfl qA qF qE qA ?nqc253;refine Xa [8] (hx:=?_);(focus(refine Xw hc (hk:=?qc254);refine Xp 9 hc (hk:=?nqc254);refine Xa [10] (hx:=?_);(focus(refine Xw hc (hk:=?qc255);refine Xz (hk:=?nqc255);exact Xk [4,6,9,10,14] [4,6,32,35]))))))))))));(focus(refine Xw hc (hk:=?_);refine gA (by simp only[h,List.length_cons,List.length_nil];rfl) ?qc256;refine Xa [1,5] (hx:=?nqc256);refine⟨?_,?_⟩;(focus(refine Xw hc (hk:=?_);exact Xq ?qc251));(focus(refine Xw hc (hk:=?qc257);refine Xa [1,6] (hx:=?nqc257);refine⟨?_,?_⟩;(focus(refine Xw hc (hk:=?_);exact Xq ?qc252));(focus(refine Xw hc (hk:=?qc258);refine aI 1 [1,8,9,10] hc rfl qC rfl qA qF qE qA ?nqc258;refine aI 7 [7,8,9,10] hc rfl qC rfl qA qF qE qA ?_;refine Xa [8] (hx:=?_);(focus(refine Xw hc (hk:=?_);exact Xq ?qc254)))))))))))
    exact hh.get) ?_
   repeat' (first|refine Va ?_|(with_reducible refine aB (ht:=fun hb=>?_) (hf:=fun hb=>?_)<;>(try simp at hb))|refine Vn ?_|refine Vl (hG:=?_)|fail)
   refine Vk [4,6,9,10,14] [4,6,32,35] hL (ih (m+1,N++(List.range (f x).nb).map (f x).bl) ⟨qI,qI,qH⟩ qI) (he:=by simp[aZ])
 ·repeat' (first|refine Va ?_|(with_reducible refine aB (ht:=fun hb=>?_) (hf:=fun hb=>?_)<;>(try simp at hb))|refine Vn ?_|refine Vl (hG:=?_)|fail)
  all_goals try(exfalso;omega)
  have hKle:K.length≤Kx.length+1:=by omega
  refine Vf (ha:=by simp[hKle];exact aA.mk) (hf:=l8 ⟨r.kind,r.id,r.of,r.time,r.key,K.length-1,fun i=>(Kx[i]?.getD ([],[])).1,fun i=>(Kx[i]?.getD ([],[])).2,N.length,fun i=>N[i]?.getD 0⟩ ⟨hrk.fit.id,hrk.fit.of,hrk.fit.key,hH2,by dsimp only;omega⟩) (hfl:=?_) (hk:=?_)<;>rintro _ ⟨e,rfl,he⟩
  ·rfl
  repeat' (first|refine Va ?_|(with_reducible refine aB (ht:=fun hb=>?_) (hf:=fun hb=>?_)<;>(try simp at hb))|refine Vn ?_|refine Vl (hG:=?_)|fail)
  ·exact .inl ⟨_,rfl⟩
  ·refine Vl (he:=by simp[hKle];exact aA.mk) (hG:=?_)
   exact .inr ⟨⟨r.kind,r.id,r.of,r.time,r.key,K.length-1,fun i=>(Kx[i]?.getD ([],[])).1,fun i=>(Kx[i]?.getD ([],[])).2,N.length,fun i=>N[i]?.getD 0⟩,rfl,(he qN).nb⟩
end Go.Proofs.YtdjfgcjlnfnfhaaGreatDoor
