/- MESSAGES, by what is asked of them only: an answer is read. -/
import Derived.Test.YtdjfgcjlnfnfhaaGreatDoorJnB
import Derived.Test.YtdjfgcjlnfnfhaaGreatDoorLwEx
import Derived.Test.YtdjfgcjlnfnfhaaGreatDoorAdA
import Derived.Test.YtdjfgcjlnfnfhaaGreatDoorLwTail
import Derived.Sort.Walk0
import Derived.Test.YtdjfgcjlnfnfhaaGreatDoorDtE
set_option linter.unusedSimpArgs false
set_option linter.unusedVariables false
namespace Go.Proofs.YtdjfgcjlnfnfhaaGreatDoor
open Go.Lw Go.RowKit
set_option maxRecDepth 100000
set_option maxHeartbeats 4000000
theorem filter_le {α:Type} {p q:α→Bool}: ∀(l:List α),(∀x∈l,q x=true→p x=true)→(l.filter q).length≤(l.filter p).length
 |[],_=>Nat.le_refl _
 |x::l,h=>by
  have ih:=filter_le l fun y hy=>h y (List.mem_cons_of_mem _ hy)
  have hx:=h x qE
  simp only[List.filter_cons]
  by_cases hq:q x=true
  ·rw[if_pos hq,if_pos (hx hq)]
   simp only[List.length_cons]
   omega
  ·rw[if_neg hq]
   split
   ·simp only[List.length_cons];omega
   ·exact ih
theorem filter_lt {α:Type} {p q:α→Bool}: ∀(l:List α),(∀x∈l,q x=true→p x=true)→ ∀x∈l,p x=true→q x=false→(l.filter q).length<(l.filter p).length
 |[],_,x,hx,_,_=>by cases hx
 |y::l,h,x,hx,h1,h2=>by
  have hl: ∀z∈l,q z=true→p z=true:=fun z hz=>h z (List.mem_cons_of_mem _ hz)
  simp only[List.filter_cons]
  rcases List.mem_cons.1 hx with rfl|hx
  ·rw[if_neg (by simp[h2]),if_pos h1]
   have:=filter_le l hl
   simp only[List.length_cons]
   omega
  ·have ih:=filter_lt l hl x hx h1 h2
   have hy:=h y qE
   by_cases hq:q y=true
   ·rw[if_pos hq,if_pos (hy hq)]
    simp only[List.length_cons]
    omega
   ·rw[if_neg hq]
    split
    ·simp only[List.length_cons];omega
    ·exact ih
def wD (n:Nat) (f:Nat→Rc) (K:List Bs):Nat:=((List.range n).filter fun i=> !decide ((f i).id∈K)).length
theorem Lc (n:Nat) (f:Nat→Rc) (K:List Bs):wD n f K≤n:=by
 have:=List.length_filter_le (fun i=> !decide ((f i).id∈K)) (List.range n)
 simpa[wD]using this
theorem Ld {n:Nat} {f:Nat→Rc} {K:List Bs} {j:Nat} (hj:j<n) (hK:(f j).id∉K):wD n f (K++[(f j).id])<wD n f K:=
 filter_lt _ (fun x _ h=>by simp at h⊢;exact h.1) j (by simpa using hj) (by simpa using hK) qE
theorem PQ (n:Nat) (f:Nat→Rc) (hn:n≤1000000) (hf: ∀i,i<n→(f i).Fit) (id:Bs):aV Tryz.prog 40 [.sl n fun i=>(f i).row,str id] (fun d=> ∃(m:Nat) (g:Nat→UInt8) (e:Int),d= .tup [byF m g,int e]∧m≤200000):=by
 refine aV.mono (G:=fun d=>(∃e:Int,d= .tup [.lit (.slice none 0 0),int e])∨ ∃(m:Nat) (g:Nat→UInt8) (e:Int),d= .tup [byF m g,int e]∧m≤200000) (bI Tryz.func40 rfl qC Tryz.ntmps40 _ rfl qE ?_) ?_
 rotate_left
 ·rintro _ (⟨e,rfl⟩|h)
  ·exact⟨_,eZ (bY _),0,fun _=>0,e,rfl,qD⟩
  ·exact⟨_,cJ.refl _,h⟩
 repeat' (first|refine Va ?_|(with_reducible refine aB (ht:=fun hb=>?_) (hf:=fun hb=>?_)<;>(try simp at hb))|refine Vn ?_|refine Vl (hG:=?_)|(refine Ve (hf:=xV n f hf hn) (hk:=?_);rintro _ ⟨e,rfl,he⟩)|fail)
 ·exact .inl ⟨_,rfl⟩
 obtain⟨h1,h2,h3⟩:=he qN
 refine dP [(7,none,40000,9,[str []])] [0,1,7] [40000] (fun x:Bs×List Bs=>[(1,.d (str x.1)),(7,.os 40000 x.2.length)]) (fun x=>[(40000,.own 9 1 (true,[str []]) (x.2.map fun y=>[str y]))]) (fun x=>x.2.length+wD n f x.2≤n) (fun x=>wD n f x.2) (id,[]) (by have:=Lc n f [];simpa using this) ?_
 rintro L hL ⟨d,K⟩ hI ih
 simp only at hI ih⊢
 have hC:aJ Tryz.prog 37 [.sl K.length fun i=>[str (K[i]?.getD [])],str d] (tru (decide (d∈K))):=by
  have h:=iN K d qD
  have e:cE K= .sl K.length fun i=>[str (K[i]?.getD [])]:=by simp[cE]
  rw[e]at h
  exact h
 repeat' (first|refine Va ?_|(with_reducible refine aB (ht:=fun hb=>?_) (hf:=fun hb=>?_)<;>(try simp at hb))|refine Vn ?_|refine Vl (hG:=?_)|(refine Ve (hf:=M8 n f hn d) (hk:=?_);rintro _ (⟨_,rfl,rfl⟩|⟨j,hj,rfl,hid⟩))|refine Vc (hf:=qV) (h:=?_)|(refine Ve (hf:=Nj n f d h1 h2) (hk:=?_);rintro _ (⟨e,rfl⟩|⟨r,rfl,hr⟩))|fail)
 all_goals try exact .inl ⟨_,rfl⟩
 all_goals try exact .inr ⟨_,_,_,rfl,hr⟩
 refine aQ (by
  intro r C hc hh
  refine bA (aG [0,1,7,8] [8,40000] qA qA) ?_
  (apply Xd 8 hc;(focus(refine Xm 0 hc (hk:=?_);refine Xm 1 hc (hk:=?_);refine Xp 4 hc (hk:=?_);refine Xa [2,5] (hx:=?_);refine⟨?_,?_⟩;(focus(refine Xw hc (hk:=?_);refine Xa [3,5] (hx:=?_);refine⟨?_,?_⟩;(focus(refine Xw hc (hk:=?_);refine Xm 6 hc (hk:=?_);refine Xa [5] (hx:=?_);(focus(refine Xw hc (hk:=?_);refine Xm 7 hc (hk:=?_);refine Xz (hk:=?_);exact Xk [0,1,7] [40000]))));(focus(refine Xw hc (hk:=?_);refine Xa [3] (hx:=?_);(focus(refine Xw hc (hk:=?_);refine Xm 6 hc (hk:=?_);refine Xm 7 hc (hk:=?_);refine Xz (hk:=?_);exact Xb [0,1,7] [40000]))))));(focus(refine Xw hc (hk:=?_);refine Xa [2] (hx:=?_);(focus(refine Xw hc (hk:=?_);refine Xa [3] (hx:=?_);(focus(refine Xw hc (hk:=?_);refine Xm 6 hc (hk:=?_);refine Xm 7 hc (hk:=?_);refine Xz (hk:=?_);exact Xb [0,1,7] [40000])))))))))
  exact hh.get) ?_
 repeat' (first|refine Va ?_|(with_reducible refine aB (ht:=fun hb=>?_) (hf:=fun hb=>?_)<;>(try simp at hb))|refine Vn ?_|refine Vl (hG:=?_)|fail)
 subst hid
 have hlt:=Ld hj qN
 exact Vk [0,1,7] [40000] hL (ih ((f j).of,K++[(f j).id]) (by simp only[List.length_append,List.length_cons,List.length_nil];omega) hlt)
abbrev PR (kd:Nat) (L:List (Key×D)):D:= .mp kd (L.map (·.1)) fun i=>(L[i]?.map (·.2)).getD (.lit undef)
theorem uE (L:List (Key×D)):iD (L.map (·.1)) (fun i=>(L[i]?.map (·.2)).getD (.lit undef))=L:=by
 apply List.ext_getElem?
 intro i
 by_cases h:i<L.length
 ·simp[iD,h]
 ·simp[iD,h]
def xY (R:Fl):Nat→List (Key×D)
 |0=>[]
 |k+1=>gB (xY R k) (.ii (R[k]?.getD (rc0,0,0)).2.1 (R[k]?.getD (rc0,0,0)).2.2) (str (R[k]?.getD (rc0,0,0)).1.id)
theorem GF: ∀(L:List (Key×D)) (k k':Key) (d:D),fL (gB L k d) k'=(decide (k=k')||fL L k')
 |[],k,k',d=>by by_cases h:k=k'<;>simp[gB,fL,h]
 |(k0,d0)::r,k,k',d=>by
  simp only[gB]
  by_cases h:k0=k
  ·subst h
   by_cases h2:k0=k'<;>simp[fL,h2]
  ·rw[if_neg h]
   simp only[fL,GF r k k' d]
   by_cases h2:k0=k'
   ·subst h2
    simp
   ·simp[h2]
def mT (z:D) (L:List (Key×D)) (k:Key) (p:D→Prop):Prop:=(dT z L k=z∧fL L k=false)∨(p (dT z L k)∧fL L k=true)
theorem mT.put {z d:D} {L:List (Key×D)} {k k':Key} {p:D→Prop} (hd:p d) (h:mT z L k' p):mT z (gB L k d) k' p:=by
 unfold mT
 rw[EO,GF]
 by_cases e:k=k'
 ·rw[if_pos e]
  exact .inr ⟨hd,by simp[e]⟩
 ·rw[if_neg e]
  simpa[mT,e]using h
theorem mT.mono {z:D} {L:List (Key×D)} {k:Key} {p q:D→Prop} (hp: ∀d,p d→q d) (h:mT z L k p):mT z L k q:=h.imp_right fun⟨h1,h2⟩=>⟨hp _ h1,h2⟩
theorem DC (R:Fl) (key:Key): ∀k,k≤R.length→mT (str []) (xY R k) key (fun d=> ∃j,j<R.length∧d=str (pF R j).id)
 |0,_=> .inl ⟨rfl,rfl⟩
 |k+1,h=>mT.put ⟨k,qD,rfl⟩ (DC R key k qD)
theorem SZ (r:Rc) (id:Bs):aJ Tryz.prog 150 [r.d,.ip [str id] 0] (tru (decide (r.id=id))):=by
 refine aW Tryz.func150 rfl qC Tryz.ntmps150 _ rfl qE fun C hc=>?_
 repeat' (first|refine Wd ?_|(refine Wc ?_ ?_<;>intro hb<;>try simp at hb)|refine Wo ?_|fail)
 (refine Zl hc (hr:=?_))
 refine bT ?_
 rw[Bool.eq_iff_iff];simp
theorem Nk (n:Nat) (f:Nat→Rc) (hn:n≤1000000) (ks:List Key) (fd:Nat→D) (a b:Int) (hg:mT (str []) (iD ks fd) (.ii a b) (fun d=> ∃j,j<n∧d=str (f j).id)):
 aV Tryz.prog 85 [.agg [.sl n fun i=>(f i).row,.mp 2 ks fd],.agg [int a,int b]] (fun d=>d= .tup [rcZ,tru false]∨ ∃j,j<n∧d= .tup [(f j).d,tru true]):=by
 refine bI Tryz.func85 rfl qC Tryz.ntmps85 _ rfl qE ?_
 repeat' (first|refine Va ?_|(with_reducible refine aB (ht:=fun hb=>?_) (hf:=fun hb=>?_)<;>(try simp at hb))|refine Vn ?_|refine Vl (hG:=?_)|fail)
 rcases hg with⟨h1,h2⟩|⟨⟨j0,hj0,h1⟩,h2⟩
 ·refine aQ (by
   intro r C hc hh
   refine dE hc (by simp[h1,h2];exact Ends.go) qE ?_
   exact hh.get) ?_
  repeat' (first|refine Va ?_|(with_reducible refine aB (ht:=fun hb=>?_) (hf:=fun hb=>?_)<;>(try simp at hb))|refine Vn ?_|refine Vl (hG:=?_)|fail)
  exact .inl rfl
 ·refine aQ (by
   intro r C hc hh
   refine dE hc (by simp[h1,h2];exact Ends.go) qE ?_
   exact hh.get) ?_
  have hI:=JP n f hn 150 [.ip [str (f j0).id] 0] (fun j=>decide ((f j).id=(f j0).id)) fun j _=>SZ (f j) (f j0).id
  repeat' (first|refine Va ?_|(with_reducible refine aB (ht:=fun hb=>?_) (hf:=fun hb=>?_)<;>(try simp at hb))|refine Vn ?_|refine Vl (hG:=?_)|(refine Vf (hf:=hI) (hfl:=?_) (hk:=?_)<;>rintro _ ⟨r,rfl,hr⟩;(·rfl))|fail)
  rcases hr with⟨rfl,hr⟩|⟨j,rfl,hj,hp,_⟩
  ·have:=hr j0 hj0
   simp at this
  ·repeat' (first|refine Va ?_|(with_reducible refine aB (ht:=fun hb=>?_) (hf:=fun hb=>?_)<;>(try simp at hb))|refine Vn ?_|refine Vl (hG:=?_)|fail)
   exact .inr ⟨j,hj,rfl⟩
set_option maxHeartbeats 1000000
theorem GG (x:Int):aJ Tryz.prog 135 [int x] (tru false):=by
 refine aW Tryz.func135 rfl qC Tryz.ntmps135 _ rfl qE fun C hc=>?_
 repeat' (first|refine Wd ?_|(refine Wc ?_ ?_<;>intro hb<;>try simp at hb)|refine Wn ?_|fail)
 (refine Zl hc (hr:=?_))
 simp
theorem sO (x y:Int):aJ Tryz.prog 72 [int x,int y] (int (Lib.compareInt x y)):=by
 refine aW Tryz.func72 rfl qC Tryz.ntmps72 _ rfl qE fun C hc=>?_
 unfold Lib.compareInt
 have h1:=GG x
 have h2:=GG y
 repeat' (first|refine Wd ?_|(refine Wc ?_ ?_<;>intro hb<;>try simp at hb)|refine Zw hc (hf:=QE) (hk:=?_)|refine Zq hc (hf:=QE) (hk:=?_)|refine Wn ?_|fail)
 all_goals try contradiction
 ·rw[if_pos qD]
  (refine Zl hc (hr:=?_))
  simp
 ·rw[if_neg qD,if_pos qD]
  (refine Zl hc (hr:=?_))
  simp
 ·rw[if_neg qD,if_neg qD]
  (refine Zl hc (hr:=?_))
  simp
theorem gN (a b:Bs):aJ Tryz.prog 73 [str a,str b] (int (Lib.compareBytes a b)):=
 dL [.string (bs a),.string (bs b)] qC fun w _=>Tryz.strings_Compare (bs a) (bs b) w
def or2 (x y:Int):Int:=if x≠0 then x else y
def orL (l:List Int) (j:Nat):Int:=if j<l.length then(if l[j]?.getD 0=0 then orL l (j+1)else l[j]?.getD 0)else 0
termination_by l.length-j
theorem Nl (l:List Int) (hl:l.length≤1000):aJ Tryz.prog 71 [.sl l.length fun i=>[int (l[i]?.getD 0)]] (int (orL l 0)):=by
 refine aW Tryz.func71 rfl qC Tryz.ntmps71 _ rfl qE fun C hc=>?_
 repeat' (first|refine Wd ?_|(refine Wc ?_ ?_<;>intro hb<;>try simp at hb)|refine Wn ?_|fail)
 refine aN (fun j:Nat=>⟨[(3,.d (int 0)),(6,.d (.sl l.length fun i=>[int (l[i]?.getD 0)])),(7,.d (int l.length)),(8,.d (int j))],[]⟩) (fun j=>j≤l.length∧orL l 0=orL l j) (fun j=>l.length-j) 0 qE (aG [3,6,7,8] [] qA qA) ?_
 rintro j ⟨hj,hA⟩
 have hst:orL l j=if j<l.length then(if l[j]?.getD 0=0 then orL l (j+1)else l[j]?.getD 0)else 0:=by rw[orL]
 repeat' (first|refine Wd ?_|(refine Wc ?_ ?_<;>intro hb<;>try simp at hb)|refine Wn ?_|fail)
 ·rw[hA,hst,if_pos qN,if_neg hb]
  (refine Zl hc (hr:=?_))
  simp
 ·exact⟨j+1,⟨qD,by rw[hA,hst,if_pos qN,if_pos hb]⟩,qD,aC [3,6,7,8] [] qA qA qE⟩
 ·rw[hA,hst,if_neg qD]
  (refine Zl hc (hr:=?_))
  simp
theorem VI (x y:Int):aJ Tryz.prog 71 [.sl 2 fun i=>[[int x],[int y]][i]?.getD [int 0]] (int (or2 x y)):=by
 have h:=Nl [x,y] qE
 have e:orL [x,y] 0=or2 x y:=by
  unfold or2
  rw[orL,orL,orL]
  simp
  by_cases hx:x=0<;>by_cases hy:y=0<;>simp[hx,hy]
 rw[e]at h
 refine aJ.sim (.cons (.sl 2 _ _ fun i hi=>?_) .nil) h
 match i,hi with
 |0,_=>rfl
 |1,_=>rfl
theorem PS (a b:Bs):0≤Lib.compareBytes a b↔Op.bytesLess b a=true∨b=a:=by
 induction a generalizing b with
 |nil=>cases b<;>simp[Lib.compareBytes,Op.bytesLess]
 |cons x a ih=>
  cases b with
  |nil=>simp[Lib.compareBytes,Op.bytesLess]
  |cons y b=>
   rw[Lib.compareBytes,Op.bytesLess]
   rcases Nat.lt_trichotomy x.toNat y.toNat with h|h|h
   ·have h1:x<y:=h
    have h2: ¬y<x:=fun e=>by have:y.toNat<x.toNat:=e;omega
    have h3:y≠x:=fun e=>by rw[e]at h;omega
    rw[if_pos h1]
    simp[h1,h2,h3]
   ·have h0:x=y:=UInt8.toNat_inj.1 h
    subst h0
    have h1: ¬x<x:=fun e=>by have:x.toNat<x.toNat:=e;omega
    rw[if_neg h1,if_neg h1]
    simp[h1,ih]
   ·have h1:y<x:=h
    have h2: ¬x<y:=fun e=>by have:x.toNat<y.toNat:=e;omega
    have h3:y≠x:=fun e=>by rw[e]at h;omega
    rw[if_neg h2,if_pos h1]
    simp[h1,h2,h3]
theorem PT (a b:Bs):Lib.compareBytes a b<0↔Op.bytesLess a b=true:=by
 induction a generalizing b with
 |nil=>cases b<;>simp[Lib.compareBytes,Op.bytesLess]
 |cons x a ih=>
  cases b with
  |nil=>simp[Lib.compareBytes,Op.bytesLess]
  |cons y b=>
   rw[Lib.compareBytes,Op.bytesLess]
   rcases Nat.lt_trichotomy x.toNat y.toNat with h|h|h
   ·have h1:x<y:=h
    rw[if_pos h1]
    simp[h1]
   ·have h0:x=y:=UInt8.toNat_inj.1 h
    subst h0
    have h1: ¬x<x:=fun e=>by have:x.toNat<x.toNat:=e;omega
    rw[if_neg h1,if_neg h1]
    simp[h1,ih]
   ·have h1:y<x:=h
    have h2: ¬x<y:=fun e=>by have:x.toNat<y.toNat:=e;omega
    have h3: ¬x=y:=fun e=>by rw[e]at h;omega
    rw[if_neg h2,if_pos h1]
    simp[h1,h2,h3]
theorem Nn (a b:Bs):Lib.compareBytes a b=0↔a=b:=by
 induction a generalizing b with
 |nil=>cases b<;>simp[Lib.compareBytes]
 |cons x a ih=>
  cases b with
  |nil=>simp[Lib.compareBytes]
  |cons y b=>
   rw[Lib.compareBytes]
   rcases Nat.lt_trichotomy x.toNat y.toNat with h|h|h
   ·have h1:x<y:=h
    have h3: ¬x=y:=fun e=>by rw[e]at h;omega
    rw[if_pos h1]
    simp[h3]
   ·have h0:x=y:=UInt8.toNat_inj.1 h
    subst h0
    have h1: ¬x<x:=fun e=>by have:x.toNat<x.toNat:=e;omega
    rw[if_neg h1,if_neg h1]
    simp[ih]
   ·have h1:y<x:=h
    have h2: ¬x<y:=fun e=>by have:x.toNat<y.toNat:=e;omega
    have h3: ¬x=y:=fun e=>by rw[e]at h;omega
    rw[if_neg h2,if_pos h1]
    simp[h3]
theorem DD (x y:Bs):Op.bytesLess x y=true↔x<y:=by rw[Go.Proofs.bytesLess_eq];simp
theorem GH {a b c:Bs} (h1:Op.bytesLess a b=true) (h2:Op.bytesLess b c=true):Op.bytesLess a c=true:=(DD _ _).2 (List.lt_trans ((DD _ _).1 h1) ((DD _ _).1 h2))
theorem Np {a b:Bs} (h1:Op.bytesLess a b=false) (h2:a≠b):Op.bytesLess b a=true:=by
 rw[DD]
 rw[Go.Proofs.bytesLess_eq]at h1
 have h3: ¬a<b:=by simpa using h1
 refine Classical.byContradiction fun h4=>h2 ?_
 exact List.le_antisymm h4 h3
set_option maxHeartbeats 2000000
theorem sP (n a b:Int):aJ Tryz.prog 221 [int n,int a,int b] (tru (decide (a≤n∧n≤b))):=by
 refine aW Tryz.func221 rfl qC Tryz.ntmps221 _ rfl qE fun C hc=>?_
 repeat' (first|refine Wd ?_|(refine Wc ?_ ?_<;>intro hb<;>try simp at hb)|refine Wo ?_|fail)
 (refine Zl hc (hr:=?_))
 refine bT ?_
 rw[Bool.eq_iff_iff];simp
theorem Nq (l:Bs) (hl:l.length≤9223372036854775807) (n:Int):aV Tryz.prog 222 [str l,int n] (IsB fun _=>True):=by
 refine bI Tryz.func222 rfl qC Tryz.ntmps222 _ rfl qE ?_
 repeat' (first|refine Va ?_|(with_reducible refine aB (ht:=fun hb=>?_) (hf:=fun hb=>?_)<;>(try simp at hb))|refine Vb ?_|refine Vl (hG:=?_)|fail)
 refine vU [0,1,7,8] [] 8 l.length ?_
 intro L hL j hj ih
 by_cases hjn:j<l.length
 ·repeat' (first|refine Va ?_|(with_reducible refine aB (ht:=fun hb=>?_) (hf:=fun hb=>?_)<;>(try simp at hb))|refine Vb ?_|refine Vl (hG:=?_)|fail)
  all_goals try(exfalso;omega)
  ·exact⟨_,rfl,trivial⟩
  ·exact Vk [0,1,7,8] [] hL (ih (j+1) qD qD)
 ·repeat' (first|refine Va ?_|(with_reducible refine aB (ht:=fun hb=>?_) (hf:=fun hb=>?_)<;>(try simp at hb))|refine Vb ?_|refine Vl (hG:=?_)|refine Vc (hf:=by exact sP _ _ _) (h:=?_)|fail)
  all_goals try(exfalso;omega)
  exact⟨_,rfl,trivial⟩
structure En where
 key:Bs
 time:Int
 status:Int
 type:Bs
 pG:Bs
 file:Bs
 fr:Int
 til:Int
 same:Bool
abbrev En.row (e:En):List D:=[str e.key,int e.time,int e.status,str e.type,str e.pG,str e.file,int e.fr,int e.til,tru e.same]
abbrev En.d (e:En):D:= .agg e.row
structure En.Fit (e:En):Prop where
 key:e.key.length≤9223372036854775807
 type:e.type.length≤9223372036854775807
 pG:e.pG.length≤9223372036854775807
 file:e.file.length≤9223372036854775807
structure En.Ok (e:En):Prop where
 key:1≤e.key.length∧e.key.length≤2000∧ ∀c∈e.key,33≤c.toNat∧c.toNat≤126
 time:0≤e.time∧e.time≤253402300799
theorem DE (e:En) (h:e.Fit):aV Tryz.prog 147 [e.d] (IsF fun f=>f=0→e.Ok):=by
 obtain⟨key,time,status,type,pG,file,fr,til,same⟩:=e
 obtain⟨h1,h2,h3,h4⟩:=h
 simp only[En.d,En.row]at*
 refine bI Tryz.func147 rfl qC Tryz.ntmps147 _ rfl qE ?_
 repeat' (first|refine Va ?_|(with_reducible refine aB (ht:=fun hb=>?_) (hf:=fun hb=>?_)<;>(try simp at hb))|refine Vb ?_|refine Vl (hG:=?_)|(refine Ve (hf:=mS _ qD) (hk:=?_);rintro _ ⟨n,rfl,hn⟩)|refine Vc (hf:=qaS) (h:=?_)|refine Vc (hf:=by exact sP _ _ _) (h:=?_)|(refine Ve (hf:=y9 _ qD) (hk:=?_);rintro _ ⟨k,rfl,hk⟩)|(refine Ve (hf:=Nq _ qD _) (hk:=?_);rintro _ ⟨wd,rfl,_⟩)|refine Vc (hf:=by exact jI pG _ qD qE qK) (h:=?_)|fail)
 all_goals try contradiction
 all_goals try(refine⟨_,rfl,?_⟩;simp;done)
 exact⟨_,rfl,fun _=>⟨hk qN,by simp only;grind⟩⟩
theorem S0 (a b c d:Int):aJ Tryz.prog 71 [.sl 4 fun i=>[[int a],[int b],[int c],[int d]][i]?.getD [int 0]] (int (orL [a,b,c,d] 0)):=by
 have h:=Nl [a,b,c,d] qE
 have e:(D.sl 4 fun i=>[[int a],[int b],[int c],[int d]][i]?.getD [int 0])= .sl [a,b,c,d].length fun i=>[int ([a,b,c,d][i]?.getD 0)]:=by
  congr 1
  funext i
  match i with
  |0|1|2|3=>rfl
  |n+4=>rfl
 rw[e]
 exact h
theorem Lf (x y:En):aV Tryz.prog 148 [x.d,y.d] (IsF fun _=>True):=by
 obtain⟨key,time,status,type,pG,file,fr,til,same⟩:=x
 obtain⟨key',time',status',type',digest',file',fr',til',same'⟩:=y
 have h1:=gN key key'
 have h2:=sO time time'
 have h3:=gN file file'
 have h4:=sO fr fr'
 generalize Lib.compareBytes key key'=a at h1
 generalize Lib.compareInt time time'=b at h2
 generalize Lib.compareBytes file file'=c at h3
 generalize Lib.compareInt fr fr'=d at h4
 have h5:=S0 a b c d
 generalize orL [a,b,c,d] 0=r at h5
 refine⟨int r,⟨_,rfl,trivial⟩,?_⟩
 refine aW Tryz.func148 rfl qC Tryz.ntmps148 _ rfl qE fun C hc=>?_
 repeat' (first|refine Wd ?_|(refine Wc ?_ ?_<;>intro hb<;>try simp at hb)|(refine dC 22 hc qC qC ?_;try simp only[List.take_succ_cons,List.take_zero,List.drop_succ_cons,List.drop_zero])|refine Zw hc (hf:=qaA) (hk:=?_)|refine Zq hc (hf:=qaA) (hk:=?_)|refine Wo ?_|fail)
 (refine Zl hc (hr:=?_))
 simp
theorem pH (n:Nat) (f:Nat→En) (hf: ∀i,i<n→(f i).Fit) (hn:n≤9223372036854775807):aV Tryz.prog 84 [.sl n fun i=>(f i).row] (IsF fun e=>e=0→n≤3000∧ ∀i,i<n→(f i).Ok):=by
 refine bI Tryz.func84 rfl qC Tryz.ntmps84 _ rfl qE ?_
 repeat' (first|refine Va ?_|(with_reducible refine aB (ht:=fun hb=>?_) (hf:=fun hb=>?_)<;>(try simp at hb))|refine Vb ?_|refine Vl (hG:=?_)|fail)
 ·exact⟨_,rfl,qE⟩
 refine dP [] [0,10,11,12] [] (fun j:Nat=>[(12,.d (int j))]) (fun _=>[]) (fun j=>j≤n∧ ∀i,i<j→(f i).Ok) (n- ·) 0 qE ?_
 rintro L hL j ⟨hj,hi⟩ ih
 by_cases hjn:j<n
 ·have hC:=DE (f j) (hf j hjn)
  repeat' (first|refine Va ?_|(with_reducible refine aB (ht:=fun hb=>?_) (hf:=fun hb=>?_)<;>(try simp at hb))|refine Vb ?_|refine Vl (hG:=?_)|(refine Ve (hf:=hC) (hk:=?_);rintro _ ⟨e,rfl,he⟩)|(refine Vq (hf:=Lf (f (j-1)) (f j)) (hfl:=?_) (hk:=?_)<;>rintro _ ⟨c,rfl,_⟩;(·rfl))|fail)
  all_goals try(exfalso;omega)
  all_goals try(refine⟨_,rfl,?_⟩;simp;done)
  ·exact⟨_,rfl,fun h=>absurd h qN⟩
  all_goals
   refine Vk [0,10,11,12] [] hL (ih (j+1) ⟨qD,fun i hij=>?_⟩ qD)
   rcases Nat.lt_or_ge i j with h|h
   ·exact hi i h
   ·obtain rfl:i=j:=by omega
    exact he qN
 ·repeat' (first|refine Va ?_|(with_reducible refine aB (ht:=fun hb=>?_) (hf:=fun hb=>?_)<;>(try simp at hb))|refine Vb ?_|refine Vl (hG:=?_)|fail)
  all_goals try(exfalso;omega)
  exact⟨_,rfl,fun _=>⟨qD,fun i hi'=>hi i qD⟩⟩
theorem JR {i j m:Nat} (h:(i+j)/2=m):((i:Int)+(j:Int)).fdiv (2^min 1 IntKind.u64.bits)=(m:Int):=by
 have e:(2:Int)^min 1 IntKind.u64.bits=2:=by decide
 rw[e,Int.fdiv_eq_ediv_of_nonneg _ qD]
 omega
def S1 (K:Nat→Bs) (n:Nat):Prop:= ∀i j,i<j→j<n→Op.bytesLess (K i) (K j)=true
abbrev leB (a b:Bs):Prop:=Op.bytesLess a b=true∨a=b
theorem PU (K:Nat→Bs) (n:Nat) (h: ∀j,0<j→j<n→ ¬leB (K j) (K (j-1))):S1 K n:=by
 intro i j hij hj
 induction j with
 |zero=>omega
 |succ j ih=>
  have h1:Op.bytesLess (K j) (K (j+1))=true:=by
   have:=h (j+1) qD hj
   rw[Nat.add_sub_cancel]at this
   refine Np ?_ (fun e=>this (.inr e))
   cases hb:Op.bytesLess (K (j+1)) (K j)with
   |false=>rfl
   |true=>exact absurd (.inl hb) this
  rcases Nat.lt_or_ge i j with h2|h2
  ·exact GH (ih h2 qD) h1
  ·obtain rfl:i=j:=by omega
   exact h1
def GI (K:Nat→Bs) (n:Nat) (s:Bs) (i:Nat):Nat:=if i<n∧Op.bytesLess (K i) s=true then GI K n s (i+1)else i
termination_by n-i
theorem Ct (K:Nat→Bs) (n:Nat) (s:Bs) (i:Nat) (hi:i≤n) (h: ∀j,j<i→Op.bytesLess (K j) s=true):i≤GI K n s i∧GI K n s i≤n∧(∀j,j<GI K n s i→Op.bytesLess (K j) s=true)∧(GI K n s i<n→Op.bytesLess (K (GI K n s i)) s=false):=by
 rw[GI]
 split
 ·rename_i hc
  have:=Ct K n s (i+1) qD (fun j hj=>by
   rcases Nat.lt_or_ge j i with h1|h1
   ·exact h j h1
   ·obtain rfl:j=i:=by omega
    exact hc.2)
  exact⟨qD,this.2⟩
 ·rename_i hc
  refine⟨Nat.le_refl _,hi,h,fun hn=>?_⟩
  cases hb:Op.bytesLess (K i) s with
  |false=>rfl
  |true=>exact absurd ⟨hn,hb⟩ hc
termination_by n-i
def lbB (K:Nat→Bs) (n:Nat) (s:Bs):Nat:=GI K n s 0
theorem GJ (K:Nat→Bs) (n:Nat) (s:Bs):lbB K n s≤n∧(∀j,j<lbB K n s→Op.bytesLess (K j) s=true)∧(lbB K n s<n→Op.bytesLess (K (lbB K n s)) s=false):=
 (Ct K n s 0 (Nat.zero_le _) (fun _ h=>by omega)).2
theorem S2 {K:Nat→Bs} {n:Nat} {s:Bs} {i:Nat} (hi:i≤n) (h1: ∀j,j<i→Op.bytesLess (K j) s=true) (h2:i<n→Op.bytesLess (K i) s=false):lbB K n s=i:=by
 obtain⟨k1,k2,k3⟩:=GJ K n s
 rcases Nat.lt_trichotomy (lbB K n s) i with h|h|h
 ·have:=h1 _ h
  rw[k3 qD]at this
  cases this
 ·exact h
 ·have:=k2 _ h
  rw[h2 qD]at this
  cases this
def wE (K:Nat→Bs) (n:Nat) (s:Bs):Bool:=decide (lbB K n s<n)&&decide (K (lbB K n s)=s)
theorem Nr (e:En) (s:Bs):aJ Tryz.prog 299 [e.d,str s] (int (Lib.compareBytes e.key s)):=by
 have h1:=gN e.key s
 generalize Lib.compareBytes e.key s=c at h1⊢
 refine aW Tryz.func299 rfl qC Tryz.ntmps299 _ rfl qE fun C hc=>?_
 repeat' (first|refine Wd ?_|(refine Wc ?_ ?_<;>intro hb<;>try simp at hb)|refine Zw hc (hf:=by exact h1) (hk:=?_)|refine Zq hc (hf:=by exact h1) (hk:=?_)|refine Wo ?_|fail)
 (refine Zl hc (hr:=?_))
 simp
theorem S3 (n:Nat) (f:Nat→En) (s:Bs) (hn:n≤1000000):aV Tryz.prog 298 [.sl n fun i=>(f i).row,str s,.lit (.func (.func 299) #[] #[])] (fun d=> ∃(i:Nat) (t:Bool),d= .tup [int i,tru t]∧i≤n):=by
 refine bI Tryz.func298 rfl qC Tryz.ntmps298 _ rfl qE ?_
 repeat' (first|refine Va ?_|(with_reducible refine aB (ht:=fun hb=>?_) (hf:=fun hb=>?_)<;>(try simp at hb))|refine Vb ?_|refine Vl (hG:=?_)|fail)
 refine dP [] [0,1,2,8,9,10] [] (fun x:Nat×Nat=>[(9,.d (int x.1)),(10,.d (int x.2))]) (fun _=>[]) (fun x=>x.1≤x.2∧x.2≤n) (fun x=>x.2-x.1) (0,n) qE ?_
 rintro L hL ⟨i,j⟩ ⟨h1,h2⟩ ih
 simp only at h1 h2 ih⊢
 by_cases hij:i<j
 ·obtain⟨m,hm,hm1,hm2⟩: ∃m:Nat,(i+j)/2=m∧i≤m∧m<j:=⟨_,rfl,qD,qD⟩
  have hfd:=JR hm
  have hC:=Nr (f m) s
  generalize Lib.compareBytes (f m).key s=c at hC
  repeat' (first|refine Va ?_|(with_reducible refine aB (ht:=fun hb=>?_) (hf:=fun hb=>?_)<;>(try simp at hb))|refine Vb ?_|refine Vl (hG:=?_)|fail)
  all_goals try(exfalso;omega)
  rw[hfd]
  repeat' (first|refine Va ?_|(with_reducible refine aB (ht:=fun hb=>?_) (hf:=fun hb=>?_)<;>(try simp at hb))|refine Vb ?_|refine Vl (hG:=?_)|refine Vc (hf:=qV) (h:=?_)|fail)
  all_goals try(exfalso;omega)
  ·exact Vk [0,1,2,8,9,10] [] hL (ih (m+1,j) ⟨qI,h2⟩ qI)
  ·exact Vk [0,1,2,8,9,10] [] hL (ih (i,m) ⟨qI,qI⟩ qI)
 ·have hC:=Nr (f i) s
  generalize Lib.compareBytes (f i).key s=c at hC
  repeat' (first|refine Va ?_|(with_reducible refine aB (ht:=fun hb=>?_) (hf:=fun hb=>?_)<;>(try simp at hb))|refine Vb ?_|refine Vl (hG:=?_)|refine Vc (hf:=qV) (h:=?_)|fail)
  all_goals try(exfalso;omega)
  exact⟨i,_,rfl,qD⟩
theorem S4 (n:Nat) (f:Nat→En) (hn:n≤1000000) (t w:Int) (ht:0≤t∧t≤253402300799) (hf: ∀i,i<n→(f i).Ok):aV Tryz.prog 224 [.sl n fun i=>(f i).row,int t,int w] (fun d=>(d= .tup [.agg [str [],int 0,int 0,str [],str [],str [],int 0,int 0,tru false],tru false])∨ ∃i,i<n∧d= .tup [(f i).d,tru true]):=by
 refine bI Tryz.func224 rfl qC Tryz.ntmps224 _ rfl qE ?_
 repeat' (first|refine Va ?_|(with_reducible refine aB (ht:=fun hb=>?_) (hf:=fun hb=>?_)<;>(try simp at hb))|refine Vb ?_|refine Vl (hG:=?_)|fail)
 refine dP [] [0,1,2,6,7,8,9,13,14,15] [6] (fun x:Nat×Int×Int=>[(8,.d (int x.2.1)),(9,.d (int x.2.2)),(15,.d (int x.1))]) (fun _=>[]) (fun x=>x.1≤n∧(-1≤x.2.1∧x.2.1<n)∧(-1≤x.2.2∧x.2.2<n)) (fun x=>n-x.1) (0,-1,-1) qH ?_
 rintro L hL ⟨j,p,q⟩ ⟨hj,hp,hq⟩ ih
 simp only at hj hp hq ih⊢
 by_cases hjn:j<n
 ·have hk:=(hf j hjn).time
  repeat' (first|refine Va ?_|(with_reducible refine aB (ht:=fun hb=>?_) (hf:=fun hb=>?_)<;>(try simp at hb))|refine Vb ?_|refine Vl (hG:=?_)|fail)
  all_goals try(exfalso;omega)
  ·exact Vk [0,1,2,6,7,8,9,13,14,15] [6] hL (ih (j+1,j,j) ⟨qI,qI,qI⟩ qI)
  ·exact Vk [0,1,2,6,7,8,9,13,14,15] [6] hL (ih (j+1,j,q) ⟨qI,qI,qI⟩ qI)
  ·exact Vk [0,1,2,6,7,8,9,13,14,15] [6] hL (ih (j+1,p,j) ⟨qI,qI,qI⟩ qI)
  ·exact Vk [0,1,2,6,7,8,9,13,14,15] [6] hL (ih (j+1,p,q) ⟨qI,qI,qI⟩ qI)
 ·have h3:0≤q→0≤(f q.toNat).time∧(f q.toNat).time≤253402300799:=fun h=>(hf q.toNat qD).time
  have h4:0≤p→0≤(f p.toNat).time∧(f p.toNat).time≤253402300799:=fun h=>(hf p.toNat qD).time
  repeat' (first|refine Va ?_|(with_reducible refine aB (ht:=fun hb=>?_) (hf:=fun hb=>?_)<;>(try simp at hb))|refine Vb ?_|refine Vl (hG:=?_)|fail)
  all_goals try(exfalso;omega)
  all_goals first|exact .inl rfl|exact .inr ⟨q.toNat,qD,rfl⟩|exact .inr ⟨p.toNat,qD,rfl⟩
theorem WS (n:Nat) (f:Nat→En) (s:Bs) (hn:n≤1000000):aV Tryz.prog 225 [.sl n fun i=>(f i).row,str s] (fun d=> ∃a b:Nat,a+b≤n∧d= .sl b (fun i=>(f (a+i)).row)∧ ∀i,i<b→(f (a+i)).key=s):=by
 refine bI Tryz.func225 rfl qC Tryz.ntmps225 _ rfl qE ?_
 repeat' (first|refine Va ?_|(with_reducible refine aB (ht:=fun hb=>?_) (hf:=fun hb=>?_)<;>(try simp at hb))|refine Vb ?_|refine Vl (hG:=?_)|(refine Ve (hf:=S3 n f s hn) (hk:=?_);rintro _ ⟨a,t,rfl,ha⟩)|fail)
 refine dP [] [0,1,5,7] [] (fun j:Nat=>[(7,.d (int j))]) (fun _=>[]) (fun j=>a≤j∧j≤n∧ ∀i,a≤i→i<j→(f i).key=s) (n- ·) a ⟨Nat.le_refl _,ha,fun i h1 h2=>by omega⟩ ?_
 rintro L hL j ⟨h1,h2,h3⟩ ih
 repeat' (first|refine Va ?_|(with_reducible refine aB (ht:=fun hb=>?_) (hf:=fun hb=>?_)<;>(try simp at hb))|refine Vb ?_|refine Vl (hG:=?_)|fail)
 all_goals try(exfalso;omega)
 ·exact Vk [0,1,5,7] [] hL (ih (j+1) ⟨qD,qD,fun i h4 h5=>by
   rcases Nat.lt_or_ge i j with h|h
   ·exact h3 i h4 h
   ·obtain rfl:i=j:=by omega
    exact hb.2⟩ qD)
 ·refine⟨a,j-a,qD,qE,fun i hi=>h3 _ qD qD⟩
theorem GK (n:Nat) (f:Nat→En) (s:Bs) (hf: ∀i,i<n→(f i).Fit) (hn:n≤9223372036854775807) (hs:s.length≤9223372036854775807):aV Tryz.prog 223 [.sl n fun i=>(f i).row,str s] (IsF fun e=>e=0→n≤3000∧ ∀i,i<n→(f i).Ok):=by
 refine bI Tryz.func223 rfl qC Tryz.ntmps223 _ rfl qE ?_
 repeat' (first|refine Va ?_|(with_reducible refine aB (ht:=fun hb=>?_) (hf:=fun hb=>?_)<;>(try simp at hb))|refine Vb ?_|refine Vl (hG:=?_)|(refine Ve (hf:=pH n f hf hn) (hk:=?_);rintro _ ⟨e,rfl,he⟩)|(refine Ve (hf:=y9 s hs) (hk:=?_);rintro _ ⟨k,rfl,hk⟩)|fail)
 ·exact⟨_,rfl,fun h=>absurd h qN⟩
 ·exact⟨_,rfl,qE⟩
 ·exact⟨_,rfl,fun _=>he qN⟩
theorem PV (n:Nat) (f:Nat→En) (s:Bs) (t w:Int) (hf: ∀i,i<n→(f i).Fit) (hn:n≤9223372036854775807) (hs:s.length≤9223372036854775807):aV Tryz.prog 151 [.sl n fun i=>(f i).row,str s,int t,int w] (fun d=>(∃e:Int,d= .tup [.agg [str [],int 0,int 0,str [],str [],str [],int 0,int 0,tru false],tru false,int e])∨ ∃i,i<n∧d= .tup [(f i).d,tru true,int 0]∧(f i).key=s∧(f i).Ok):=by
 refine bI Tryz.func151 rfl qC Tryz.ntmps151 _ rfl qE ?_
 repeat' (first|refine Va ?_|(with_reducible refine aB (ht:=fun hb=>?_) (hf:=fun hb=>?_)<;>(try simp at hb))|refine Vb ?_|refine Vl (hG:=?_)|(refine Ve (hf:=GK n f s hf hn hs) (hk:=?_);rintro _ ⟨e,rfl,he⟩)|refine Vc (hf:=by exact sP _ _ _) (h:=?_)|refine Vc (hf:=qaS) (h:=?_)|fail)
 all_goals try exact .inl ⟨_,rfl⟩
 obtain⟨he1,he2⟩:=he qN
 repeat' (first|refine Va ?_|(with_reducible refine aB (ht:=fun hb=>?_) (hf:=fun hb=>?_)<;>(try simp at hb))|refine Vb ?_|refine Vl (hG:=?_)|(refine Ve (hf:=WS n f s qD) (hk:=?_);rintro _ ⟨a,b,hab,rfl,hk⟩)|fail)
 have hN:=S4 b (fun i=>f (a+i)) qD t w qD fun i hi=>he2 _ qD
 obtain⟨_,rfl|⟨i,hi,rfl⟩,hN⟩:=hN
 ·repeat' (first|refine Va ?_|(with_reducible refine aB (ht:=fun hb=>?_) (hf:=fun hb=>?_)<;>(try simp at hb))|refine Vb ?_|refine Vl (hG:=?_)|refine Vc (hf:=qaT) (h:=?_)|fail)
  exact .inl ⟨_,rfl⟩
 ·repeat' (first|refine Va ?_|(with_reducible refine aB (ht:=fun hb=>?_) (hf:=fun hb=>?_)<;>(try simp at hb))|refine Vb ?_|refine Vl (hG:=?_)|refine Vc (hf:=qaT) (h:=?_)|fail)
  exact .inr ⟨a+i,qD,rfl,hk i hi,he2 _ qD⟩
set_option maxHeartbeats 8000000
structure Fi where
 name:Bs
 nb:Nat
 bts:Nat→UInt8
abbrev Fi.row (x:Fi):List D:=[str x.name,byF x.nb x.bts]
abbrev DF (R:List (Int×Bs)):D:= .sl R.length fun i=>[int (R[i]?.getD (0,[])).1,str (R[i]?.getD (0,[])).2]
structure Sto where
 ne:Nat
 en:Nat→En
 nf:Nat
 fi:Nat→Fi
 R:List (Int×Bs)
abbrev Sto.cells (s:Sto):List D:=[.sl s.ne fun i=>(s.en i).row,.sl s.nf fun i=>(s.fi i).row,DF s.R]
abbrev Sto.d (s:Sto):D:= .agg s.cells
structure Sto.Fit (s:Sto):Prop where
 ne:s.ne≤9223372036854775807
 en: ∀i,i<s.ne→(s.en i).Fit
 nf:s.nf≤9223372036854775807
 fi: ∀i,i<s.nf→(s.fi i).name.length≤9223372036854775807∧(s.fi i).nb≤9223372036854775807
 R:aV Tryz.prog 31 [DF s.R] (IsF fun e=>e=0→s.R.length≤50)
abbrev Ns (F:Fl):D:= .agg [flD F,PR 2 (xY F F.length)]
def rU (s:Sto) (F:Nat→Fl):Nat→List (Key×D)
 |0=>[]
 |i+1=>gB (rU s F i) (.s (s.fi i).name) (Ns (F i))
abbrev zF:D:= .lit (.agg #[.slice none 0 0,.map none])
theorem JS (s:Sto) (F:Nat→Fl) (key:Key): ∀i,mT zF (rU s F i) key (fun d=> ∃q,q<i∧d=Ns (F q))
 |0=> .inl ⟨rfl,rfl⟩
 |i+1=>mT.put ⟨i,qD,rfl⟩ ((JS s F key i).mono fun d ⟨q,h1,h2⟩=>⟨q,qD,h2⟩)
structure rV (s:Sto) (L:List (Key×D)):Prop where
 ne:s.ne≤3000
 en: ∀i,i<s.ne→(s.en i).Ok
 fi: ∀i,i<s.ne→ ∃F:Fl,Az F.length (pF F)∧dT zF L (.s (s.en i).file)=Ns F
 nf:s.nf≤20
 nb: ∀i,i<s.nf→(s.fi i).nb≤500000
 R:s.R.length≤50
abbrev AB (s:Sto) (L:List (Key×D)):D:= .ip [.sl s.ne fun i=>(s.en i).row,.sl s.nf fun i=>(s.fi i).row,DF s.R,PR 0 L] 0
theorem mU {C:Ctx} {ops:Array Oper} {fuel:Nat} {listed:Array Bool} {st s2:St} {K:St→Prop} (t:Nat) {d d':D} (hl:aA (Lw.look t st.aO) (V.d d)) (hw:cJ d d') (h2:aA (some (St.mk (place t (.d d') st.aO) st.aD)) s2) (hk:eD C ops fuel listed s2 K):eD C ops fuel listed st K:=by
 cases h2
 refine JB ?_ hk
 rintro a w ⟨ok,h,r⟩
 refine⟨ok,h,r.mem,r.defers,r.nt,r.pin,fun i y hi=>?_⟩
 rw[a8]at hi
 split at hi
 ·rename_i e
  subst e
  cases hi
  obtain⟨h1,v,h2,h3⟩:=r.slot t _ hl
  cases h3 with
  |d _ _ h3=>exact⟨h1,v,h2,.d _ _ (hw _ _ _ h3)⟩
 ·exact r.slot i y hi
theorem pI (a b:Value):cJ (.lit (.agg #[a,b])) (.agg [.lit a,.lit b]):=fun w ok v h=>by
 cases h
 refine .agg _ _ (fun i=>(#[a,b]:Array Value)[i]?.getD undef) rfl (fun i hi=>?_) fun i d hd=>?_
 ·match i,hi with
  |0,_=>rfl
  |1,_=>rfl
 ·match i,hd with
  |0,hd=>cases hd;exact .lit _
  |1,hd=>cases hd;exact .lit _
theorem Nt (s:Sto) (h:s.Fit):aV Tryz.prog 35 [s.d] (fun d=>(∃e:Int,d= .tup [.lit (.pointer none),int e]∧e≠0)∨ ∃L,d= .tup [AB s L,int 0]∧rV s L):=by
 obtain⟨ne,en,nf,fi,R⟩:=s
 obtain⟨h1,h2,h3,h4,h5⟩:=h
 simp only[Sto.d,Sto.cells]at*
 have hF: ∀i,∃(F:Fl),∃m e:Int,i<nf→(e=0→Az F.length (pF F)∧(fi i).nb≤500000)∧aJ Tryz.prog 82 [byF (fi i).nb (fi i).bts] (.tup [flD F,int m,int e])∧aJ Tryz.prog 83 [byF (fi i).nb (fi i).bts] (.tup [mkD F,int e]):=fun i=>by
  by_cases h:i<nf
  ·obtain⟨F,m,e,h7⟩:=PO (fi i).nb (fi i).bts (h4 i h).2
   exact⟨F,m,e,fun _=>h7⟩
  ·exact⟨[],0,0,fun h'=>absurd h' h⟩
 obtain⟨F,hF⟩:=Classical.axiomOfChoice hF
 refine bI Tryz.func35 rfl qC Tryz.ntmps35 _ rfl qE ?_
 repeat' (first|refine Va ?_|(with_reducible refine aB (ht:=fun hb=>?_) (hf:=fun hb=>?_)<;>(try simp at hb))|refine Vn ?_|refine Vl (hG:=?_)|(refine Ve (hf:=h5) (hk:=?_);rintro _ ⟨e,rfl,hR50⟩)|fail)
 ·exact .inl ⟨_,rfl,qN⟩
 ·exact .inl ⟨_,rfl,qK⟩
 have hR50:=hR50 qN
 refine dP [] [1,5,38,39,40] [1,34,36] (fun i:Nat=>[(40,.d (int i))]) (fun i=>[(34,.cB 0 (rU ⟨ne,en,nf,fi,R⟩ F i))]) (fun i=>i≤nf∧ ∀q,q<i→Az (F q).length (pF (F q))∧(fi q).nb≤500000) (fun i=>nf-i) 0 ⟨qD,fun q h=>by omega⟩ ?_ (he:=by simp[rU])
 rintro L hL i ⟨hi,hq⟩ ih
 by_cases hin:i<nf
 ·obtain⟨m,e,hF⟩:=hF i
  obtain⟨g1,g2,g3⟩:=hF hin
  obtain⟨g4,g5⟩:=h4 i hin
  repeat' (first|refine Va ?_|(with_reducible refine aB (ht:=fun hb=>?_) (hf:=fun hb=>?_)<;>(try simp at hb))|refine Vn ?_|refine Vl (hG:=?_)|(refine Ve (hf:=mS (fi i).name g4) (hk:=?_);rintro _ ⟨n,rfl,hn⟩)|fail)
  all_goals try(exfalso;omega)
  ·exact .inl ⟨_,rfl,qK⟩
  refine Vb ?_
  repeat' (first|refine Va ?_|(with_reducible refine aB (ht:=fun hb=>?_) (hf:=fun hb=>?_)<;>(try simp at hb))|refine Vn ?_|refine Vl (hG:=?_)|refine Vc (hf:=by exact g2) (h:=?_)|refine Vc (hf:=by exact g3) (h:=?_)|fail)
  all_goals try(exfalso;omega)
  ·exact .inl ⟨_,rfl,qK⟩
  ·exact .inl ⟨_,rfl,qN⟩
  have hR:=g1 qN
  have hRl:=hR.1.1
  refine dP [] [1,5,7,13,38,39,40,82,83,84] [1,7,13,34,36,80] (fun k:Nat=>[(84,.d (int k))]) (fun k=>[(80,.cB 2 (xY (F i) k))]) (fun k=>k≤(F i).length) (fun k=>(F i).length-k) 0 qE ?_ (he:=by simp[xY])
  rintro L2 hL2 k hk ih2
  by_cases hkn:k<(F i).length
  ·repeat' (first|refine Va ?_|(with_reducible refine aB (ht:=fun hb=>?_) (hf:=fun hb=>?_)<;>(try simp at hb))|refine Vn ?_|refine Vl (hG:=?_)|fail)
   all_goals try(exfalso;omega)
   exact Vk [1,5,7,13,38,39,40,82,83,84] [1,7,13,34,36,80] hL2 (ih2 (k+1) qD qD) (he:=by simp[xY])
  ·obtain rfl:k=(F i).length:=by omega
   repeat' (first|refine Va ?_|(with_reducible refine aB (ht:=fun hb=>?_) (hf:=fun hb=>?_)<;>(try simp at hb))|refine Vn ?_|refine Vl (hG:=?_)|fail)
   all_goals try(exfalso;omega)
   refine Vs 80 ?_
   refine aQ (by
    intro r C hc hh
    refine bA (aG [1,5,7,13,38,39,40] [1,7,13,34,36] qA qA) ?_
    (apply Xd 8 hc;(focus(refine Xm 0 hc (hk:=?_);refine Xp 1 hc (hk:=?_);refine Xp 2 hc (hk:=?_);refine Xp 4 hc (hk:=?_);refine Xa [3,5,6] (hx:=?_);refine⟨?_,?_,?_⟩;(focus(refine Xw hc (hk:=?_);refine Xa [5,6] (hx:=?_);refine⟨?_,?_⟩;(focus(refine Xw hc (hk:=?_);refine Xa [6] (hx:=?_);(focus(refine Xw hc (hk:=?_);refine Xa [7] (hx:=?_);(focus(refine Xw hc (hk:=?_);refine Xz (hk:=?_);exact Xk [1,5,38,39,40] [1,34,36]))))));(focus(refine Xw hc (hk:=?_);refine Xa [5] (hx:=?_);(focus(refine Xw hc (hk:=?_);refine Xa [7] (hx:=?_);(focus(refine Xw hc (hk:=?_);refine Xz (hk:=?_);exact Xb [1,5,38,39,40] [1,34,36]))))))));(focus(refine Xw hc (hk:=?_);refine Xa [3,6] (hx:=?_);refine⟨?_,?_⟩;(focus(refine Xw hc (hk:=?_);refine Xa [6] (hx:=?_);(focus(refine Xw hc (hk:=?_);refine Xa [7] (hx:=?_);(focus(refine Xw hc (hk:=?_);refine Xz (hk:=?_);exact Xb [1,5,38,39,40] [1,34,36]))))));(focus(refine Xw hc (hk:=?_);refine Xa [3] (hx:=?_);(focus(refine Xw hc (hk:=?_);refine Xa [7] (hx:=?_);(focus(refine Xw hc (hk:=?_);refine Xz (hk:=?_);exact Xb [1,5,38,39,40] [1,34,36]))))))));(focus(refine Xw hc (hk:=?_);refine Xa [3,5] (hx:=?_);refine⟨?_,?_⟩;(focus(refine Xw hc (hk:=?_);refine Xa [5] (hx:=?_);(focus(refine Xw hc (hk:=?_);refine Xa [7] (hx:=?_);(focus(refine Xw hc (hk:=?_);refine Xz (hk:=?_);exact Xb [1,5,38,39,40] [1,34,36]))))));(focus(refine Xw hc (hk:=?_);refine Xa [3] (hx:=?_);(focus(refine Xw hc (hk:=?_);refine Xa [7] (hx:=?_);(focus(refine Xw hc (hk:=?_);refine Xz (hk:=?_);exact Xb [1,5,38,39,40] [1,34,36])))))))))))
    exact hh.get) ?_
   repeat' (first|refine Va ?_|(with_reducible refine aB (ht:=fun hb=>?_) (hf:=fun hb=>?_)<;>(try simp at hb))|refine Vn ?_|refine Vl (hG:=?_)|fail)
   refine Vk [1,5,38,39,40] [1,34,36] hL (ih (i+1) ⟨qD,fun q h=>?_⟩ qD) (he:=by simp[rU])
   rcases Nat.lt_or_ge q i with h'|h'
   ·exact hq q h'
   ·obtain rfl:q=i:=by omega
    exact hR
 ·obtain rfl:i=nf:=by omega
  repeat' (first|refine Va ?_|(with_reducible refine aB (ht:=fun hb=>?_) (hf:=fun hb=>?_)<;>(try simp at hb))|refine Vn ?_|refine Vl (hG:=?_)|(refine Ve (hf:=pH ne en h2 h1) (hk:=?_);rintro _ ⟨e,rfl,he⟩)|fail)
  all_goals try(exfalso;omega)
  ·exact .inl ⟨_,rfl,qN⟩
  obtain⟨he1,he2⟩:=he qN
  refine Vs 34 ?_
  refine Vs 36 ?_
  have hml:=uE (rU ⟨ne,en,i,fi,R⟩ F i)
  generalize hks:List.map (fun x:Key×D=>x.1) (rU ⟨ne,en,i,fi,R⟩ F i)=ks at hml⊢
  generalize hfd:(fun j:Nat=>(Option.map (fun x:Key×D=>x.2) (rU ⟨ne,en,i,fi,R⟩ F i)[j]?).getD (D.lit undef))=fd at hml⊢
  refine dP [] [1,5,110,111,112] [1] (fun k:Nat=>[(112,.d (int k))]) (fun _=>[]) (fun k=>k≤ne∧ ∀q,q<k→ ∃G:Fl,Az G.length (pF G)∧dT zF (rU ⟨ne,en,i,fi,R⟩ F i) (.s (en q).file)=Ns G) (fun k=>ne-k) 0 ⟨qD,fun q h=>by omega⟩ ?_
  rintro L hL k ⟨hk,hkq⟩ ih
  by_cases hkn:k<ne
  ·repeat' (first|refine Va ?_|(with_reducible refine aB (ht:=fun hb=>?_) (hf:=fun hb=>?_)<;>(try simp at hb))|refine Vn ?_|refine Vl (hG:=?_)|fail)
   all_goals try(exfalso;omega)
   rcases JS ⟨ne,en,i,fi,R⟩ F (.s (en k).file) i with⟨g1,g2⟩|⟨⟨q0,gq,g1⟩,g2⟩
   ·refine aQ (by
     intro r C hc hh
     refine bA (aG [1,5,18,110,111,112] [1,18] qA qA) ?_
     (apply Xd 13 hc;(focus(refine Xm 0 hc (hk:=?_);refine Xp 4 hc (hk:=?_);refine Xa [1,5,10] (hx:=?_);refine⟨?_,?_,?_⟩;(focus(refine Xw hc (hk:=?q320);refine Xa [2,5,10] (hx:=?nq320);refine⟨?_,?_,?_⟩;(focus(refine Xw hc (hk:=?q321);refine Xa [3,5,10] (hx:=?nq321);refine⟨?_,?_,?_⟩;(focus(refine Xw hc (hk:=?q322);refine Xa [5,10] (hx:=?nq322);refine⟨?_,?_⟩;(focus(refine Xw hc (hk:=?q323);refine Xa [6,10] (hx:=?nq323);refine⟨?_,?_⟩;(focus(refine Xw hc (hk:=?_);refine gA Q8 ?q324;refine Xm 7 hc (hk:=?nq324);refine Xa [8,9,10] (hx:=?_);refine⟨?_,?_,?_⟩;(focus(refine Xw hc (hk:=?_);refine mU 124 qA (pI _ _) qA ?q325;refine Xa [9,10] (hx:=?nq325);refine⟨?_,?_⟩;(focus(refine Xw hc (hk:=?q326);refine Xa [10] (hx:=?nq326);(focus(refine Xw hc (hk:=?q327);refine Xa [11] (hx:=?nq327);(focus(refine Xw hc (hk:=?q328);refine Xm 12 hc (hk:=?nq328);refine Xz (hk:=?_);exact Xk [1,5,20,110,111,112] [1]))))));(focus(refine Xw hc (hk:=?q329);refine Xa [9,11] (hx:=?nq329);refine⟨?_,?_⟩;(focus(refine Xw hc (hk:=?_);exact Xq ?q327));(focus(refine Xw hc (hk:=?q3210);refine Xa [9] (hx:=?nq3210);(focus(refine Xw hc (hk:=?_);exact Xq ?q328))))))));(focus(refine Xw hc (hk:=?q3211);refine Xa [8,10] (hx:=?nq3211);refine⟨?_,?_⟩;(focus(refine Xw hc (hk:=?_);refine mU 124 qA (pI _ _) qA ?_;exact Xq ?q326));(focus(refine Xw hc (hk:=?q3212);refine Xa [8] (hx:=?nq3212);(focus(refine Xw hc (hk:=?_);refine mU 124 qA (pI _ _) qA ?_;exact Xq ?q327))))));(focus(refine Xw hc (hk:=?q3213);refine Xa [8,9] (hx:=?nq3213);refine⟨?_,?_⟩;(focus(refine Xw hc (hk:=?_);refine mU 124 qA (pI _ _) qA ?_;exact Xq ?q329));(focus(refine Xw hc (hk:=?_);exact Xq ?q3212))))));(focus(refine Xw hc (hk:=?q3214);refine Xa [6] (hx:=?nq3214);(focus(refine Xw hc (hk:=?_);refine gA Q8 ?q3215;refine Xm 7 hc (hk:=?nq3215);refine Xa [8,9] (hx:=?_);refine⟨?_,?_⟩;(focus(refine Xw hc (hk:=?_);refine mU 124 qA (pI _ _) qA ?_;exact Xq ?q329));(focus(refine Xw hc (hk:=?_);exact Xq ?q3212))))))));(focus(refine Xw hc (hk:=?q3216);refine Xa [5] (hx:=?nq3216);(focus(refine Xw hc (hk:=?_);exact Xq ?q3214))))));(focus(refine Xw hc (hk:=?q3217);refine Xa [3,10] (hx:=?nq3217);refine⟨?_,?_⟩;(focus(refine Xw hc (hk:=?_);exact Xq ?q323));(focus(refine Xw hc (hk:=?q3218);refine Xa [3] (hx:=?nq3218);(focus(refine Xw hc (hk:=?_);exact Xq ?q3214))))));(focus(refine Xw hc (hk:=?q3219);refine Xa [3,5] (hx:=?nq3219);refine⟨?_,?_⟩;(focus(refine Xw hc (hk:=?_);exact Xq ?q3216));(focus(refine Xw hc (hk:=?_);exact Xq ?q3218))))));(focus(refine Xw hc (hk:=?q3220);refine Xa [2,10] (hx:=?nq3220);refine⟨?_,?_⟩;(focus(refine Xw hc (hk:=?_);exact Xq ?q3217));(focus(refine Xw hc (hk:=?q3221);refine Xa [2] (hx:=?nq3221);(focus(refine Xw hc (hk:=?_);exact Xq ?q3218))))));(focus(refine Xw hc (hk:=?q3222);refine Xa [2,5] (hx:=?nq3222);refine⟨?_,?_⟩;(focus(refine Xw hc (hk:=?_);exact Xq ?q3219));(focus(refine Xw hc (hk:=?_);exact Xq ?q3221))))));(focus(refine Xw hc (hk:=?q3223);refine Xa [1,10] (hx:=?nq3223);refine⟨?_,?_⟩;(focus(refine Xw hc (hk:=?_);exact Xq ?q3220));(focus(refine Xw hc (hk:=?q3224);refine Xa [1] (hx:=?nq3224);(focus(refine Xw hc (hk:=?_);exact Xq ?q3221))))));(focus(refine Xw hc (hk:=?q3225);refine Xa [1,5] (hx:=?nq3225);refine⟨?_,?_⟩;(focus(refine Xw hc (hk:=?_);exact Xq ?q3222));(focus(refine Xw hc (hk:=?_);exact Xq ?q3224)))))))
     exact hh.get) ?_
    repeat' (first|refine Va ?_|(with_reducible refine aB (ht:=fun hb=>?_) (hf:=fun hb=>?_)<;>(try simp at hb))|refine Vn ?_|refine Vl (hG:=?_)|fail)
    exact .inl ⟨_,rfl,qK⟩
   ·have hGq:=(hq q0 qD).1
    refine aQ (by
     intro r C hc hh
     refine bA (aG [1,5,18,110,111,112] [1,18] qA qA) ?_
     (apply Xd 13 hc;(focus(refine Xm 0 hc (hk:=?_);refine Xp 4 hc (hk:=?_);refine Xa [1,5,10] (hx:=?_);refine⟨?_,?_,?_⟩;(focus(refine Xw hc (hk:=?qb320);refine Xa [2,5,10] (hx:=?nqb320);refine⟨?_,?_,?_⟩;(focus(refine Xw hc (hk:=?qb321);refine Xa [3,5,10] (hx:=?nqb321);refine⟨?_,?_,?_⟩;(focus(refine Xw hc (hk:=?qb322);refine Xa [5,10] (hx:=?nqb322);refine⟨?_,?_⟩;(focus(refine Xw hc (hk:=?qb323);refine Xa [6,10] (hx:=?nqb323);refine⟨?_,?_⟩;(focus(refine Xw hc (hk:=?_);refine gA Q8 ?qb324;refine Xm 7 hc (hk:=?nqb324);refine Xa [8,9,10] (hx:=?_);refine⟨?_,?_,?_⟩;(focus(refine Xw hc (hk:=?qb325);refine Xa [9,10] (hx:=?nqb325);refine⟨?_,?_⟩;(focus(refine Xw hc (hk:=?qb326);refine Xa [10] (hx:=?nqb326);(focus(refine Xw hc (hk:=?qb327);refine Xa [11] (hx:=?nqb327);(focus(refine Xw hc (hk:=?qb328);refine Xm 12 hc (hk:=?nqb328);refine Xz (hk:=?_);exact Xk [1,5,18,19,20,110,111,112] [1,18,19]))))));(focus(refine Xw hc (hk:=?qb329);refine Xa [9,11] (hx:=?nqb329);refine⟨?_,?_⟩;(focus(refine Xw hc (hk:=?_);exact Xq ?qb327));(focus(refine Xw hc (hk:=?qb3210);refine Xa [9] (hx:=?nqb3210);(focus(refine Xw hc (hk:=?_);exact Xq ?qb328))))))));(focus(refine Xw hc (hk:=?qb3211);refine Xa [8,10] (hx:=?nqb3211);refine⟨?_,?_⟩;(focus(refine Xw hc (hk:=?_);exact Xq ?qb326));(focus(refine Xw hc (hk:=?qb3212);refine Xa [8] (hx:=?nqb3212);(focus(refine Xw hc (hk:=?_);exact Xq ?qb327))))));(focus(refine Xw hc (hk:=?qb3213);refine Xa [8,9] (hx:=?nqb3213);refine⟨?_,?_⟩;(focus(refine Xw hc (hk:=?_);exact Xq ?qb329));(focus(refine Xw hc (hk:=?_);exact Xq ?qb3212))))));(focus(refine Xw hc (hk:=?qb3214);refine Xa [6] (hx:=?nqb3214);(focus(refine Xw hc (hk:=?_);refine gA Q8 ?qb3215;refine Xm 7 hc (hk:=?nqb3215);refine Xa [8,9] (hx:=?_);refine⟨?_,?_⟩;(focus(refine Xw hc (hk:=?_);exact Xq ?qb329));(focus(refine Xw hc (hk:=?_);exact Xq ?qb3212))))))));(focus(refine Xw hc (hk:=?qb3216);refine Xa [5] (hx:=?nqb3216);(focus(refine Xw hc (hk:=?_);exact Xq ?qb3214))))));(focus(refine Xw hc (hk:=?qb3217);refine Xa [3,10] (hx:=?nqb3217);refine⟨?_,?_⟩;(focus(refine Xw hc (hk:=?_);exact Xq ?qb323));(focus(refine Xw hc (hk:=?qb3218);refine Xa [3] (hx:=?nqb3218);(focus(refine Xw hc (hk:=?_);exact Xq ?qb3214))))));(focus(refine Xw hc (hk:=?qb3219);refine Xa [3,5] (hx:=?nqb3219);refine⟨?_,?_⟩;(focus(refine Xw hc (hk:=?_);exact Xq ?qb3216));(focus(refine Xw hc (hk:=?_);exact Xq ?qb3218))))));(focus(refine Xw hc (hk:=?qb3220);refine Xa [2,10] (hx:=?nqb3220);refine⟨?_,?_⟩;(focus(refine Xw hc (hk:=?_);exact Xq ?qb3217));(focus(refine Xw hc (hk:=?qb3221);refine Xa [2] (hx:=?nqb3221);(focus(refine Xw hc (hk:=?_);exact Xq ?qb3218))))));(focus(refine Xw hc (hk:=?qb3222);refine Xa [2,5] (hx:=?nqb3222);refine⟨?_,?_⟩;(focus(refine Xw hc (hk:=?_);exact Xq ?qb3219));(focus(refine Xw hc (hk:=?_);exact Xq ?qb3221))))));(focus(refine Xw hc (hk:=?qb3223);refine Xa [1,10] (hx:=?nqb3223);refine⟨?_,?_⟩;(focus(refine Xw hc (hk:=?_);exact Xq ?qb3220));(focus(refine Xw hc (hk:=?qb3224);refine Xa [1] (hx:=?nqb3224);(focus(refine Xw hc (hk:=?_);exact Xq ?qb3221))))));(focus(refine Xw hc (hk:=?qb3225);refine Xa [1,5] (hx:=?nqb3225);refine⟨?_,?_⟩;(focus(refine Xw hc (hk:=?_);exact Xq ?qb3222));(focus(refine Xw hc (hk:=?_);exact Xq ?qb3224)))))))
     exact hh.get) ?_
    repeat' (first|refine Va ?_|(with_reducible refine aB (ht:=fun hb=>?_) (hf:=fun hb=>?_)<;>(try simp at hb))|refine Vn ?_|refine Vl (hG:=?_)|(refine Ve (hf:=Nk (F q0).length (pF (F q0)) (by have:=hGq.1;omega) _ _ _ _ (by rw[uE];exact DC (F q0) _ _ (Nat.le_refl _))) (hk:=?_);rintro _ (rfl|⟨j,hj,rfl⟩))|fail)
    all_goals try exact .inl ⟨_,rfl,qK⟩
    refine Vk [1,5,110,111,112] [1] hL (ih (k+1) ⟨qD,fun q h'=>?_⟩ qD)
    rcases Nat.lt_or_ge q k with h6|h6
    ·exact hkq q h6
    ·obtain rfl:q=k:=by omega
     exact⟨F q0,hGq,g1⟩
  ·repeat' (first|refine Va ?_|(with_reducible refine aB (ht:=fun hb=>?_) (hf:=fun hb=>?_)<;>(try simp at hb))|refine Vn ?_|refine Vl (hG:=?_)|fail)
   all_goals try(exfalso;omega)
   refine .inr ⟨rU ⟨ne,en,i,fi,R⟩ F i,?_,he1,he2,fun q hqn=>hkq q (by simp only at hqn;omega),qI,fun q hq'=>(hq q hq').2,hR50⟩
   rw[←hks,←hfd]
   rfl
set_option maxHeartbeats 2000000
theorem AD (c:UInt8):aV Tryz.prog 238 [u8 c] (fun d=> ∃n:Nat,d=int n∧n≤16):=by
 refine bI Tryz.func238 rfl qC Tryz.ntmps238 _ rfl qE ?_
 have h1:=c.toNat_lt
 repeat' (first|refine Va ?_|(with_reducible refine aB (ht:=fun hb=>?_) (hf:=fun hb=>?_)<;>(try simp at hb))|refine Vb ?_|refine Vl (hG:=?_)|fail)
 ·exact⟨c.toNat-48,qH,qD⟩
 ·exact⟨c.toNat-97+10,qH,qD⟩
 ·exact⟨c.toNat-65+10,qH,qD⟩
 ·exact⟨16,rfl,qD⟩
theorem Lg (n:Nat) (g:Nat→UInt8) (w:Bs) (hn:n≤1000000) (hw:w.length≤1000000):aV Tryz.prog 239 [byF n g,str w] (fun d=> ∃f:Nat,d=int f∧f≤2∧(f=0→w.length≤n)):=by
 refine bI Tryz.func239 rfl qC Tryz.ntmps239 _ rfl qE ?_
 repeat' (first|refine Va ?_|(with_reducible refine aB (ht:=fun hb=>?_) (hf:=fun hb=>?_)<;>(try simp at hb))|refine Vb ?_|refine Vl (hG:=?_)|fail)
 refine dP [] [0,1,7,8] [] (fun j:Nat=>[(8,.d (int j))]) (fun _=>[]) (fun j=>j≤w.length∧j≤n) (w.length- ·) 0 qE ?_
 rintro L hL j ⟨hj,hjn⟩ ih
 by_cases h1:j<w.length
 ·by_cases h2:j<n
  ·repeat' (first|refine Va ?_|(with_reducible refine aB (ht:=fun hb=>?_) (hf:=fun hb=>?_)<;>(try simp at hb))|refine Vb ?_|refine Vl (hG:=?_)|fail)
   all_goals try(exfalso;omega)
   ·exact⟨2,rfl,qD,qE⟩
   ·exact Vk [0,1,7,8] [] hL (ih (j+1) ⟨qD,qD⟩ qD)
  ·repeat' (first|refine Va ?_|(with_reducible refine aB (ht:=fun hb=>?_) (hf:=fun hb=>?_)<;>(try simp at hb))|refine Vb ?_|refine Vl (hG:=?_)|fail)
   all_goals try(exfalso;omega)
   exact⟨1,rfl,qD,qE⟩
 ·repeat' (first|refine Va ?_|(with_reducible refine aB (ht:=fun hb=>?_) (hf:=fun hb=>?_)<;>(try simp at hb))|refine Vb ?_|refine Vl (hG:=?_)|fail)
  all_goals try(exfalso;omega)
  exact⟨0,rfl,qD,fun _=>by omega⟩
theorem GL (n:Nat) (g:Nat→UInt8) (hn:n≤1000000):aV Tryz.prog 166 [byF n g] (fun d=> ∃(m:Nat) (f:Nat→UInt8) (l:Int) (h:Nat),d= .tup [byF m f,int l,int h]∧h≤2∧m≤n∧(h=0→m+3≤l∧l≤n)):=by
 refine aV.mono (G:=fun d=>(∃h:Nat,d= .tup [.lit (.slice none 0 0),int 0,int h]∧1≤h∧h≤2)∨ ∃(m:Nat) (f:Nat→UInt8) (l:Int) (h:Nat),d= .tup [byF m f,int l,int h]∧h≤2∧m≤n∧(h=0→m+3≤l∧l≤n)) (bI Tryz.func166 rfl qC Tryz.ntmps166 _ rfl qE ?_) ?_
 rotate_left
 ·rintro _ (⟨h,rfl,h1,h2⟩|h)
  ·exact⟨.tup [byF 0 fun _=>0,int 0,int h],eZ (bY _),0,_,0,h,rfl,h2,qD,qD⟩
  ·exact⟨_,cJ.refl _,h⟩
 repeat' (first|refine Va ?_|(with_reducible refine aB (ht:=fun hb=>?_) (hf:=fun hb=>?_)<;>(try simp at hb))|refine Vb ?_|refine Vl (hG:=?_)|fail)
 refine dP [] [0,5,6] [] (fun x:Nat×Nat=>[(5,.d (int x.2)),(6,.d (int x.1))]) (fun _=>[]) (fun x=>x.1≤n∧x.2≤65536) (fun x=>n-x.1) (0,0) qE ?_
 rintro L hL ⟨j,v⟩ ⟨hj,hv⟩ ih
 simp only at hj hv ih⊢
 by_cases h1:j<n
 ·repeat' (first|refine Va ?_|(with_reducible refine aB (ht:=fun hb=>?_) (hf:=fun hb=>?_)<;>(try simp at hb))|refine Vb ?_|refine Vl (hG:=?_)|(refine Ve (hf:=AD _) (hk:=?_);rintro _ ⟨x,rfl,hx⟩)|(refine Ve (hf:=Lg _ _ [13,10] qD qE) (hk:=?_);rintro _ ⟨e,rfl,he1,he2⟩)|fail)
  all_goals try(exfalso;omega)
  ·exact .inl ⟨2,rfl,qK,qK⟩
  ·exact .inl ⟨2,rfl,qK,qK⟩
  ·rename_i hb
   exact Vk [0,5,6] [] hL (ih (j+1,16*v+x) ⟨qI,qI⟩ qI)
  ·exact .inl ⟨2,rfl,qK,qK⟩
  ·exact .inl ⟨e,rfl,qD,qD⟩
  ·exact .inl ⟨1,rfl,qK,qK⟩
  ·exact .inl ⟨e,rfl,qD,qD⟩
  ·have h2:=he2 qN
   simp at h2
   repeat' (first|refine Va ?_|(with_reducible refine aB (ht:=fun hb=>?_) (hf:=fun hb=>?_)<;>(try simp at hb))|refine Vb ?_|refine Vl (hG:=?_)|fail)
   exact .inr ⟨_,_,_,0,rfl,qD,qD,fun _=>⟨qD,qD⟩⟩
 ·repeat' (first|refine Va ?_|(with_reducible refine aB (ht:=fun hb=>?_) (hf:=fun hb=>?_)<;>(try simp at hb))|refine Vb ?_|refine Vl (hG:=?_)|(refine Ve (hf:=AD _) (hk:=?_);rintro _ ⟨x,rfl,hx⟩)|fail)
  all_goals try(exfalso;omega)
  all_goals exact .inl ⟨1,rfl,qK,qK⟩
theorem Nu (K:Bs) (m:Nat) (f:Nat→UInt8) (i:Nat):(K.map aZ++(List.range m).map fun i=>[D.lit (.int .u8 ((f i).toNat:Int))])[i]?.getD [.lit (.int .u8 0)]=aZ ((K++(List.range m).map f)[i]?.getD 0):=by
 rw[show(K.map aZ++(List.range m).map fun i=>[D.lit (.int .u8 ((f i).toNat:Int))])=(K++(List.range m).map f).map aZ by simp[Function.comp_def],List.getElem?_map]
 cases(K++(List.range m).map f)[i]?<;>rfl
theorem DG (n:Nat) (g:Nat→UInt8) (hn:n≤1000000):aV Tryz.prog 99 [byF n g] (fun d=> ∃(m:Nat) (f:Nat→UInt8) (l h e:Int),d= .tup [byF m f,int l,int h,int e]∧m≤1000000∧(0≤h∧h≤1000000)):=by
 refine aV.mono (G:=fun d=>(∃l h e:Int,d= .tup [.lit (.slice none 0 0),int l,int h,int e]∧(0≤h∧h≤1000000))∨ ∃(m:Nat) (f:Nat→UInt8) (l h e:Int),d= .tup [byF m f,int l,int h,int e]∧m≤1000000∧(0≤h∧h≤1000000)) (bI Tryz.func99 rfl qC Tryz.ntmps99 _ rfl qE ?_) ?_
 rotate_left
 ·rintro _ (⟨l,h,e,rfl,h2⟩|h)
  ·exact⟨.tup [byF 0 fun _=>0,int l,int h,int e],eZ (bY _),0,_,l,h,e,rfl,qD,h2⟩
  ·exact⟨_,cJ.refl _,h⟩
 repeat' (first|refine Va ?_|(with_reducible refine aB (ht:=fun hb=>?_) (hf:=fun hb=>?_)<;>(try simp at hb))|refine Vb ?_|refine Vl (hG:=?_)|fail)
 refine dP [(6,none,40000,5,[.lit (.int .u8 0)])] [0,6,7] [40000] (fun x:Nat×Bs=>[(6,.os 40000 x.2.length),(7,.d (int x.1))]) (fun x=>[(40000,.own 5 1 (true,[.lit (.int .u8 0)]) (x.2.map aZ))]) (fun x=>x.1≤n∧x.2.length≤x.1) (fun x=>n-x.1) (0,[]) qE ?_
 rintro L hL ⟨j,K⟩ ⟨hj,hK⟩ ih
 simp only at hj hK ih⊢
 repeat' (first|refine Va ?_|(with_reducible refine aB (ht:=fun hb=>?_) (hf:=fun hb=>?_)<;>(try simp at hb))|refine Vb ?_|refine Vl (hG:=?_)|(refine Ve (hf:=GL _ _ qD) (hk:=?_);rintro _ ⟨m,f,l,h,rfl,hh,hm,hl⟩)|fail)
 all_goals try(exfalso;omega)
 ·exact .inl ⟨_,_,_,rfl,qD,qD⟩
 ·exact .inr ⟨_,_,_,_,_,rfl,qD,qD,qD⟩
 ·exact .inl ⟨_,_,_,rfl,qD,qD⟩
 ·obtain⟨l',rfl⟩: ∃l':Nat,l=l':=⟨l.toNat,by have:=hl qD;omega⟩
  have:=hl qD
  exact Vk [0,6,7] [40000] hL (ih (j+l',K++(List.range m).map f) ⟨qI,qH⟩ qI) (he:=by simp[Function.comp_def])
 ·exact .inl ⟨_,_,_,rfl,qD,qD⟩
 ·have:=hl qD
  simp only[Nu]
  exact .inr ⟨_,_,_,_,_,rfl,qD,qD,qD⟩
 ·simp only[Nu]
  exact .inr ⟨_,_,_,_,_,rfl,qD,qD,qD⟩
set_option maxHeartbeats 1000000
theorem Nv (N:Nat) (f:Nat→UInt8) (i:Nat):(Option.map (fun i=>[D.lit (.int .u8 ((f i).toNat:Int))]) (List.range N)[i]?).getD [.lit (.int .u8 0)]=aZ (if i<N then f i else 0):=by
 by_cases h:i<N
 ·simp[h]
 ·rw[List.getElem?_eq_none qH,if_neg h]
  rfl
def JT (d:D):Prop:= ∃(st:Int) (rs:Bs) (K:List (Bs×Bs)) (m:Nat) (g:Nat→UInt8),d=v7 st rs K m g∧rs.length≤1000000∧iO K∧m≤1000000
theorem DH (n:Nat) (g:Nat→UInt8) (hn:n≤1000000):aV Tryz.prog 41 [byF n g] (fun d=> ∃(a:D) (x y e:Int),d= .tup [a,int x,int y,int e]∧JT a):=by
 refine aV.mono (G:=fun d=>(∃x y e:Int,d= .tup [.agg [int 0,str [],.lit (.slice none 0 0),.lit (.slice none 0 0)],int x,int y,int e])∨ ∃(a:D) (x y e:Int),d= .tup [a,int x,int y,int e]∧JT a) (bI Tryz.func41 rfl qC Tryz.ntmps41 _ rfl qE ?_) ?_
 rotate_left
 ·rintro _ (⟨x,y,e,rfl⟩|h)
  ·refine⟨.tup [v7 0 [] [] 0 fun _=>0,int x,int y,int e],eZ (mK rfl fun k x hk=>?_),_,x,y,e,rfl,0,[],[],0,_,rfl,qE,⟨qE,qE⟩,qD⟩
   match k,hk with
   |0,hk=>cases hk;exact⟨_,rfl,cJ.refl _⟩
   |1,hk=>cases hk;exact⟨_,rfl,cJ.refl _⟩
   |2,hk=>cases hk;exact⟨_,rfl,bY _⟩
   |3,hk=>cases hk;exact⟨_,rfl,bY _⟩
  ·exact⟨_,cJ.refl _,h⟩
 repeat' (first|refine Va ?_|(with_reducible refine aB (ht:=fun hb=>?_) (hf:=fun hb=>?_)<;>(try simp at hb))|refine Vb ?_|refine Vl (hG:=?_)|(refine Ve (hf:=K4 n g hn) (hk:=?_);rintro _ ⟨st,rs,K,m,ok,rfl,hrs,hK,hm⟩)|(refine Ve (hf:=Gw _ _ _ hK.hd) (hk:=?_);rintro _ ⟨k,t,rfl,hk⟩)|(refine Ve (hf:=Ay _ _ _ _ _ hrs hK) (hk:=?_);rintro _ ⟨f,rfl,_⟩)|(refine Ve (hf:=K6 _ _ _ _ _ hrs hK) (hk:=?_);rintro _ ⟨fr,rfl,hf⟩)|(refine Ve (hf:=DG _ _ qD) (hk:=?_);rintro _ ⟨bm,bf,l,h,e,rfl,hbm,hh⟩)|fail)
 all_goals try(exfalso;omega)
 all_goals first
  |exact .inl ⟨_,_,_,rfl⟩
  |exact .inr ⟨_,_,_,_,rfl,_,_,_,_,_,rfl,hrs,hK,qD⟩
  |(simp only[Nv];exact .inr ⟨_,_,_,_,rfl,_,_,_,_,_,rfl,hrs,hK,qD⟩)
end Go.Proofs.YtdjfgcjlnfnfhaaGreatDoor
