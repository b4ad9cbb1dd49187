/- PAGE: a link is added; the links of a style. (WITH run_drawN.) -/
import Derived.Test.YtdjfgcjlnfnfhaaGreatDoorTxB
import Derived.Test.YtdjfgcjlnfnfhaaGreatDoorAdA
import Derived.Test.YtdjfgcjlnfnfhaaGreatDoorLkA
import Derived.Lib.FieldsP
import Derived.Test.YtdjfgcjlnfnfhaaGreatDoorLwTail
import Derived.Shelf.Strings.FieldsFuncGrows
import Derived.Test.YtdjfgcjlnfnfhaaGreatDoorLwEx
import Derived.Test.YtdjfgcjlnfnfhaaGreatDoorBag
set_option linter.unusedSimpArgs false
set_option linter.unusedVariables false
namespace Go.Proofs.YtdjfgcjlnfnfhaaGreatDoor
open Go.Lw
set_option maxRecDepth 100000
set_option maxHeartbeats 1000000
def sty (l:Bs) (i:Nat):Option ((Nat×Nat)×Nat):=match(wR l i).1 with
 |some x=>some (x,(wR l i).2)
 |none=>match(wS l i).1 with
  |some x=>some (x,(wS l i).2)
  |none=>none
theorem D9 {l:Bs} {i:Nat} (hi:i≤l.length) {x:(Nat×Nat)×Nat} (h:sty l i=some x):i<x.2∧x.2≤l.length:=by
 unfold sty at h
 have h1:=Kd l i hi
 have h2:=Ke l i hi
 split at h
 ·rename_i y hy
  cases h
  exact⟨h1.2 y hy,h1.1⟩
 ·split at h
  ·rename_i y hy
   cases h
   exact⟨h2.2 y hy,h2.1⟩
  ·cases h
def inS (l:Bs) (i:Nat):List (Nat×Nat):=
 if i<l.length then match sty l i with
  |some x=>if i<x.2 then x.1::inS l x.2 else[]
  |none=>inS l (i+1)
 else[]
termination_by l.length-i
theorem A1 {l:Bs} {i:Nat} (hi:i<l.length) {x:(Nat×Nat)×Nat} (h:sty l i=some x):inS l i=x.1::inS l x.2:=by
 rw[inS,if_pos hi,h]
 simp only
 rw[if_pos (D9 qD h).1]
theorem A2 {l:Bs} {i:Nat} (hi:i<l.length) (h:sty l i=none):inS l i=inS l (i+1):=by
 rw[inS,if_pos hi,h]
theorem Ea {l:Bs} {i:Nat} (hi: ¬i<l.length):inS l i=[]:=by rw[inS,if_neg hi]
theorem nY (l:Bs) (hm:l.length≤200000):aJ Tryz.prog 100 [str l] (A0 (inS l 0)):=by
 refine aW Tryz.func100 rfl qC Tryz.ntmps100 _ rfl qE fun C hc=>?_
 repeat' (first|refine Wd ?_|(refine Wc ?_ ?_<;>intro hb<;>try simp at hb)|fail)
 refine aN (fun x:Nat×List (Nat×Nat)=>⟨[(0,.d (str l)),(3,.bp 10 0),(4,.os 40000 x.2.length)],[(10,.box 274 [.d (str l),.d (int x.1)]),(40000,.own 32 2 (true,zS) (x.2.map encS))]⟩) (fun x=>x.1≤l.length∧x.2.length≤x.1∧inS l 0=x.2++inS l x.1) (fun x=>l.length-x.1) (0,[]) qE (cQ [(4,none,40000,32,zS)] [0,3,4] [10,40000] qA qA qA) ?_
 rintro⟨i,m⟩ ⟨h1,h2,h3⟩
 simp only at h1 h2 h3⊢
 by_cases hil:i<l.length
 rotate_left
 ·rw[Ea hil,List.append_nil]at h3
  rw[h3]
  repeat' (first|refine Wd ?_|(refine Wc ?_ ?_<;>intro hb<;>try simp at hb)|refine Wn ?_|fail)
  ·exfalso;omega
  ·(refine Zl hc (hr:=?_))
   simp
 have hu:=Tm l i h1 hm
 have hp:=Hc l i h1 hm
 have hul:=Kd l i h1
 have hpl:=Ke l i h1
 have hsm:=fun x h=>A1 (x:=x) hil h
 have hno:=fun h=>A2 hil h
 have hsl:=fun x h=>D9 (x:=x) h1 h
 unfold sty at hsm hno hsl
 generalize wR l i=u at hu hul hsm hno hsl
 generalize wS l i=v at hp hpl hsm hno hsl
 obtain⟨_|x,q⟩:=u
 ·obtain⟨_|x,r⟩:=v
  ·simp only[spD]at hu hp hno
   repeat' (first|refine Wd ?_|(refine Wc ?_ ?_<;>intro hb<;>try simp at hb)|refine Wn ?_|refine aF ([(100000,10)]) (hu) hc qA qA qA qA qA rfl qA qA rfl qE qE qA qA ?_|refine aF ([(100000,10)]) (hp) hc qA qA qA qA qA rfl qA qA rfl qE qE qA qA ?_|fail)
   all_goals try contradiction
   ·exact⟨(i+1,m),⟨qH,qH,by rw[h3,hno trivial]⟩,qH,aC [0,3,4] [10,40000] qA qA qE⟩
   ·exfalso;omega
  ·simp only[spD]at hu hp hsm hsl
   have h4:=hsm _ rfl
   have h5:=hsl _ rfl
   simp only at h4 h5
   repeat' (first|refine Wd ?_|(refine Wc ?_ ?_<;>intro hb<;>try simp at hb)|refine Wn ?_|refine aF ([(100000,10)]) (hu) hc qA qA qA qA qA rfl qA qA rfl qE qE qA qA ?_|refine aF ([(100000,10)]) (hp) hc qA qA qA qA qA rfl qA qA rfl qE qE qA qA ?_|fail)
   all_goals try contradiction
   ·exact⟨(r,m++[x]),⟨qH,qH,by rw[h3,h4];simp⟩,qH,aC [0,3,4] [10,40000] qA qA qE⟩
   ·exfalso;omega
 ·simp only[spD]at hu hsm hsl
  have h4:=hsm _ rfl
  have h5:=hsl _ rfl
  simp only at h4 h5
  repeat' (first|refine Wd ?_|(refine Wc ?_ ?_<;>intro hb<;>try simp at hb)|refine Wn ?_|refine aF ([(100000,10)]) (hu) hc qA qA qA qA qA rfl qA qA rfl qE qE qA qA ?_|fail)
  all_goals try contradiction
  ·exact⟨(q,m++[x]),⟨qH,qH,by rw[h3,h4];simp⟩,qH,aC [0,3,4] [10,40000] qA qA qE⟩
  ·exfalso;omega
def Ord:List (Nat×Nat)→Nat→Nat→Prop
 |[],a,b=>a≤b
 |x::r,a,b=>a≤x.1∧x.1≤x.2∧Ord r x.2 b
theorem Ord.le {r:List (Nat×Nat)} {a b:Nat} (h:Ord r a b):a≤b:=by
 induction r generalizing a with
 |nil=>exact h
 |cons x r ih=>have:=ih h.2.2;have:=h.1;have:=h.2.1;omega
theorem Ord.mono {r:List (Nat×Nat)} {a a' b:Nat} (h:Ord r a b) (ha:a'≤a):Ord r a' b:=by
 cases r with
 |nil=>exact Nat.le_trans ha h
 |cons x r=>exact⟨Nat.le_trans ha h.1,h.2⟩
theorem Ord.append {r s:List (Nat×Nat)} {a b c:Nat} (h:Ord r a b) (h2:Ord s b c):Ord (r++s) a c:=by
 induction r generalizing a with
 |nil=>exact h2.mono h
 |cons x r ih=>exact⟨h.1,h.2.1,ih h.2.2⟩
theorem Ord.get {r:List (Nat×Nat)} {a b:Nat} (h:Ord r a b): ∀i,i<r.length→a≤(r[i]?.getD (0,0)).1∧(r[i]?.getD (0,0)).1≤(r[i]?.getD (0,0)).2∧(r[i]?.getD (0,0)).2≤b:=by
 induction r generalizing a with
 |nil=>intro i hi;simp at hi
 |cons x r ih=>
  intro i hi
  have hl:=h.2.2.le
  have h1:=h.1
  have h2:=h.2.1
  cases i with
  |zero=>simp;omega
  |succ i=>
   have:=ih h.2.2 i qaQ
   simp;omega
theorem Ord.next {r:List (Nat×Nat)} {a b:Nat} (h:Ord r a b): ∀i,i+1<r.length→(r[i]?.getD (0,0)).2≤(r[i+1]?.getD (0,0)).1:=by
 induction r generalizing a with
 |nil=>intro i hi;simp at hi
 |cons x r ih=>
  intro i hi
  cases i with
  |zero=>
   cases r with
   |nil=>simp at hi
   |cons y r=>simpa using h.2.2.1
  |succ i=>simpa using ih h.2.2 i qaQ
theorem Ord.take {r:List (Nat×Nat)} {a b:Nat} (h:Ord r a b) (j:Nat) (hj:j<r.length):Ord (r.take j) a (r[j]?.getD (0,0)).1:=by
 induction r generalizing a j with
 |nil=>simp at hj
 |cons x r ih=>
  cases j with
  |zero=>simpa[Ord]using h.1
  |succ j=>simpa[Ord]using⟨h.1,h.2.1,ih h.2.2 j (by simp at hj;omega)⟩
theorem Ord.sub {r s:List (Nat×Nat)} {a b:Nat} (hs:s.Sublist r) (h:Ord r a b):Ord s a b:=by
 induction hs generalizing a with
 |slnil=>exact h
 |cons x hs ih=>
  have h1:=h.1
  have h2:=h.2.1
  exact(ih h.2.2).mono qD
 |cons_cons x hs ih=>exact⟨h.1,h.2.1,ih h.2.2⟩
theorem Ord.add {r:List (Nat×Nat)} {a b:Nat} (h:Ord r a b) (k:Nat):Ord (r.map fun x=>(k+x.1,k+x.2)) (k+a) (k+b):=by
 induction r generalizing a with
 |nil=>have:a≤b:=h;show k+a≤k+b;omega
 |cons x r ih=>have h1:=h.1;have h2:=h.2.1;exact⟨qH,qH,ih h.2.2⟩
theorem N5 {l:Bs} {i:Nat} {x:Nat×Nat} (h:(quo l i).1=some x):i≤x.1∧x.1≤x.2∧x.2≤(quo l i).2:=by
 have h1:=bO qB l (i+1)
 unfold quo at h⊢
 split at h
 ·rename_i hq
  rw[if_pos hq]
  split at h
  ·rename_i hc
   rw[if_pos hc]
   cases h
   simp;omega
  ·cases h
 ·cases h
theorem Rp {l:Bs} {i:Nat} {x:Nat×Nat} (h:(wR l i).1=some x):i≤x.1∧x.1≤x.2∧x.2≤(wR l i).2:=by
 have h1:=bO aY l (i+4)
 have hq:=fun y=>N5 (l:=l) (i:=skip aY l (i+4)) (x:=y)
 have hle: ∀e,(quo l (skip aY l (i+4)))=(none,e)→skip aY l (i+4)≤e:=by
  intro e he
  have:=bO qB l (skip aY l (i+4)+1)
  unfold quo at he
  split at he
  ·split at he
   ·cases he
   ·cases he;omega
  ·cases he;omega
 unfold wR at h⊢
 split at h
 ·rename_i hw
  rw[if_pos hw]
  generalize quo l (skip aY l (i+4))=q at hq hle h⊢
  obtain⟨_|y,e⟩:=q
  ·simp only at h⊢
   have:=hle e rfl
   have h3:=bO uB l e
   have h5:=bO aY l (skip uB l e)
   split at h
   ·cases h
   ·rename_i n1
    rw[if_neg n1]
    split at h
    ·cases h
    ·rename_i n2
     rw[if_neg n2]
     split at h
     ·rename_i n3
      rw[if_pos n3]
      cases h
      simp;omega
     ·cases h
  ·simp only at h⊢
   have:=hq y rfl
   have h5:=bO aY l e
   simp only at this
   split at h
   ·rename_i n1
    rw[if_pos n1]
    cases h
    simp;omega
   ·cases h
 ·cases h
theorem Rq {l:Bs} {i:Nat} {x:Nat×Nat} (h:(wS l i).1=some x):i≤x.1∧x.1≤x.2∧x.2≤(wS l i).2:=by
 have h1:=bO aY l (i+7)
 unfold wS at h⊢
 split at h
 ·rename_i hw
  rw[if_pos hw]
  split at h
  ·cases h
  ·rename_i n
   rw[if_neg n]
   have:=N5 h
   omega
 ·cases h
theorem Tn {l:Bs} {i:Nat} {x:(Nat×Nat)×Nat} (h:sty l i=some x):i≤x.1.1∧x.1.1≤x.1.2∧x.1.2≤x.2:=by
 unfold sty at h
 split at h
 ·rename_i y hy
  cases h
  exact Rp hy
 ·split at h
  ·rename_i y hy
   cases h
   exact Rq hy
  ·cases h
theorem lS (l:Bs) (i:Nat) (hi:i≤l.length):Ord (inS l i) i l.length:=by
 by_cases h:i<l.length
 ·cases hs:sty l i with
  |some x=>
   have h1:=D9 hi hs
   have h2:=Tn hs
   rw[A1 h hs]
   exact⟨h2.1,h2.2.1,(lS l x.2 h1.2).mono h2.2.2⟩
  |none=>
   rw[A2 h hs]
   exact(lS l (i+1) qD).mono qD
 ·rw[Ea h];exact hi
termination_by l.length-i
theorem To (l:Bs) (a n:Nat) (h:a≤n):Ord (sp l a n) a n:=by
 have h1:=N4 (p:=aY) (l:=l) h
 have h2:=N4 (p:=nBl) (l:=l) h1.2
 unfold sp
 split
 ·exact⟨h1.1,h2.1,h2.2⟩
 ·exact h
theorem Kf (l:Bs): ∀k,k≤(Lib.split l [44]).length→ ∃e,Ord (img l (Lib.split l [44]) k) 0 e∧e≤rN (Lib.split l [44]) k∧e≤l.length
 |0,_=>⟨0,Nat.le_refl 0,Nat.zero_le _,Nat.zero_le _⟩
 |k+1,hk=>by
  obtain⟨e,h1,h2,h3⟩:=Kf l k qD
  have h4:=vV (Lib.split l [44]) k qD
  have h5:=nM l 44 k qD
  refine⟨rN (Lib.split l [44]) k+((Lib.split l [44])[k]?.getD []).length,?_,qD,h5⟩
  show Ord (img l (Lib.split l [44]) k++_) _ _
  exact h1.append ((To l _ _ qD).mono h2)
def Rr (l:Bs):List (Nat×Nat):=img l (Lib.split l [44]) (Lib.split l [44]).length
theorem N6 (l:Bs):Ord (Rr l) 0 l.length:=by
 obtain⟨e,h1,h2,h3⟩:=Kf l _ (Nat.le_refl _)
 have:=h1.append (show Ord [] e l.length from h3)
 rwa [List.append_nil]at this
theorem N7 (l:Bs):(Rr l).length≤l.length+2:=Nat.le_trans (Kb l _ _) (fG l 44)
def uV:List Atr→Nat→Nat→Prop
 |[],a,b=>a≤b
 |x::r,a,b=>a<x.fr∧x.fr≤x.til∧uV r x.til b
theorem uV.mono {r:List Atr} {a a' b b':Nat} (h:uV r a b) (ha:a'≤a) (hb:b≤b'):uV r a' b':=by
 induction r generalizing a a' with
 |nil=>exact Nat.le_trans ha (Nat.le_trans h hb)
 |cons x r ih=>exact⟨Nat.lt_of_le_of_lt ha h.1,h.2.1,ih h.2.2 (Nat.le_refl _)⟩
theorem uV.ord {r:List Atr} {a b:Nat} (h:uV r a b):Ord (r.map fun x=>(x.fr,x.til)) a b:=by
 induction r generalizing a with
 |nil=>exact h
 |cons x r ih=>exact⟨Nat.le_of_lt h.1,h.2.1,ih h.2.2⟩
def Rs (l:Bs) (x:Atr):Prop:=(x.has=true→x.val=iV ((l.take x.til).drop x.fr))∧(x.has=false→x.val=[])
theorem Tp {l:Bs} {i:Nat} (h:(att l i).2.1=true) (hi:i≤l.length):i<(att l i).1.fr∧Rs l (att l i).1:=by
 have h1:=bO aY l i
 have h2:=cI aY l i hi
 unfold att at h⊢
 generalize skip aY l i=b at h h1 h2⊢
 have h3:=x6 cA l b
 have h4:=x7 cA l b h2
 generalize nm cA l b=e at h h3 h4⊢
 split at h
 ·cases h
 rename_i n1
 rw[if_neg n1]
 split at h
 ·cases h
 rename_i n2
 rw[if_neg n2]
 split at h
 ·rename_i n3
  rw[if_pos n3]
  have hlt:e<l.length:=(List.getElem?_eq_some_iff.1 n3).1
  split at h
  ·rename_i n4
   rw[if_pos n4]
   have h5:=(I2 l (e+1) qD).2.2 n4
   exact⟨qH,fun _=>rfl,fun h=>by cases h⟩
  ·cases h
 ·rename_i n3
  rw[if_neg n3]
  exact⟨qH,fun h=>(by cases h),fun _=>rfl⟩
theorem Kg (l:Bs) (i:Nat) (hi:i≤l.length):uV (aH l i).1 i (aH l i).2∧ ∀a∈(aH l i).1,Rs l a:=by
 by_cases h:(att l i).2.1=true
 ·have h1:=D6 l i hi
  have h2:=h1.2.2 h
  have h3:=Kg l (att l i).2.2 h1.1
  have h4:=Tp h hi
  rw[AR hi h]
  refine⟨⟨h4.1,h2.2.2.1,h3.1.mono h2.2.2.2.1 (Nat.le_refl _)⟩,fun a ha=>?_⟩
  cases ha with
  |head=>exact h4.2
  |tail _ ha=>exact h3.2 a ha
 ·rw[D7 q8]
  exact⟨Nat.le_refl _,fun a ha=>by cases ha⟩
termination_by l.length-i
decreasing_by omega
structure Sl (l:Bs) (t:Tk):Prop where
 ord:uV t.aH t.fr t.til
 val: ∀a∈t.aH,Rs l a
 til:t.til≤l.length
theorem Tq {l:Bs} {i:Nat} (hi:i≤l.length) {r:Bs×List Atr×Nat} (h:(opn l i).1=some r):uV r.2.1 i r.2.2∧ ∀a∈r.2.1,Rs l a:=by
 unfold opn at h
 split at h
 ·rename_i h1
  have hlt:i<l.length:=(List.getElem?_eq_some_iff.1 h1).1
  have h2:=x6 cN l (i+1)
  have h3:=x7 cN l (i+1) qD
  generalize nm cN l (i+1)=e at h h2 h3⊢
  split at h
  ·cases h
  ·obtain⟨h4,h5⟩:=Kg l e h3
   generalize aH l e=q at h h4 h5⊢
   have h7:=bO aY l q.2
   simp only at h
   generalize skip aY l q.2=b at h h7⊢
   have h9:b≤(if l[b]?=some 47 then b+1 else b):=by split<;>omega
   generalize (if l[b]?=some 47 then b+1 else b)=c at h h9⊢
   split at h
   ·cases h
    exact⟨h4.mono qD qH,h5⟩
   ·cases h
 ·cases h
theorem Tr {l:Bs} {i:Nat} {t:Tk} (hi:i≤l.length) (h:tok l i=some t):Sl l t:=by
 have hle:=pS hi h
 unfold tok at h
 split at h
 ·cases h
  exact⟨by show i≤_;have:=hle.1;simp at this;omega,(fun a ha=>by cases ha),hle.2.1⟩
 ·split at h
  ·cases h
   exact⟨by show i≤_;have:=hle.1;simp at this;omega,(fun a ha=>by cases ha),hle.2.1⟩
  ·split at h
   ·rename_i r hr
    cases h
    have:=Tq hi hr
    exact⟨this.1,this.2,hle.2.1⟩
   ·cases h
theorem Rt {l:Bs} {P:Tk→Prop} (h1: ∀a b,a<b→b≤l.length→P ⟨1,a,b,[],[]⟩) (h2: ∀i t,i≤l.length→tok l i=some t→P t):
 ∀(n fr i:Nat) (m:List Tk),l.length-i≤n→fr≤i→i≤l.length→(∀t∈m,P t)→ ∀t∈run l fr i m,P t:=by
 have htx: ∀a b,b≤l.length→ ∀t∈txt a b,P t:=by
  intro a b hb t ht
  unfold txt at ht
  split at ht
  ·rename_i hlt
   rw[List.mem_singleton]at ht
   rw[ht]
   exact h1 a b hlt hb
  ·cases ht
 have happ: ∀{a b:List Tk},(∀t∈a,P t)→(∀t∈b,P t)→ ∀t∈a++b,P t:=fun ha hb t ht=>(List.mem_append.1 ht).elim (ha t) (hb t)
 intro n
 induction n with
 |zero=>
  intro fr i m hn hf hi hm
  rw[uS qD]
  exact happ hm (htx _ _ (Nat.le_refl _))
 |succ n ih=>
  intro fr i m hn hf hi hm
  by_cases hc:i<l.length∧m.length≤20000
  ·cases ht:tok l i with
   |none=>
    rw[uR hc.1 hc.2 ht]
    exact ih fr (i+1) m qD qD qD hm
   |some t=>
    rw[AU hc.1 hc.2 ht]
    have hle:=pS hi ht
    have hre:=rK l t.til t.name hle.2.1
    have ht2:=h2 i t hi ht
    split
    ·refine ih _ _ _ qD (Nat.le_refl _) hre.2 (happ (happ hm (htx _ _ hi)) ?_)
     intro x hx
     cases hx with
     |head=>exact ht2
     |tail _ hx=>exact htx _ _ hre.2 x hx
    ·refine ih _ _ _ qD (Nat.le_refl _) hle.2.1 (happ (happ hm (htx _ _ hi)) ?_)
     intro x hx
     rw[List.mem_singleton]at hx
     rw[hx]
     exact ht2
  ·rw[uS hc]
   exact happ hm (htx _ _ (Nat.le_refl _))
theorem N8 (l:Bs): ∀t∈run l 0 0 [],Sl l t:=
 Rt (fun a b h hb=>⟨Nat.le_of_lt h,fun a ha=>(by cases ha),hb⟩) (fun i t hi ht=>Tr hi ht) l.length 0 0 [] qD (Nat.le_refl _) (Nat.zero_le _) (fun t ht=>by cases ht)
theorem N9 {m:List Tk} {a b:Nat} (h:sU m a b):a≤b∧ ∀i,i<m.length→a≤(m[i]?.getD .none).fr∧(m[i]?.getD .none).fr<(m[i]?.getD .none).til∧(m[i]?.getD .none).til≤b:=by
 induction m generalizing a with
 |nil=>exact⟨Nat.le_of_eq h,fun i hi=>absurd hi (Nat.not_lt_zero _)⟩
 |cons t m ih=>
  obtain⟨h1,h2,h3,h4,h5⟩:=h
  obtain⟨h6,h7⟩:=ih h5
  refine⟨qD,fun i hi=>?_⟩
  cases i with
  |zero=>simp;omega
  |succ i=>have:=h7 i qaQ;simp;omega
def A3:Bs:=[115,116,121,108,101]
def Oa:Bs:=[98,97,115,101]
def mV:Bs:=[104,114,101,102]
def LN:Bs:=[114,101,108]
def Ob:Bs:=[115,116,121,108,101,115,104,101,101,116]
structure Lnk where
 kind:Nat
 text:Bs
 fr:Nat
 til:Nat
 dest:Adr
 leads:Bool
abbrev Lnk.none:Lnk:=⟨0,[],0,0,Adr.zero,false⟩
abbrev Eb (x:Lnk):List D:=[int x.kind,str x.text,int x.fr,int x.til,str x.dest.scheme,str x.dest.host,str x.dest.port,str x.dest.path,str x.dest.query,tru x.dest.eI,str x.dest.dH,tru x.dest.fK,tru x.leads]
abbrev oK (m:List Lnk):D:= .sl m.length fun i=>Eb (m[i]?.getD .none)
@[simp] theorem Uh (o:Option Lnk):(Option.map Eb o).getD (Eb .none)=Eb (o.getD .none):=by cases o<;>rfl
def iB (at1 bs1:Adr) (k:Nat) (text:Bs) (fr til:Nat):Lnk:=
 if(mA (if k=1 then at1 else bs1) text).2=0 then⟨k,text,fr,til,(mA (if k=1 then at1 else bs1) text).1,true⟩else⟨k,text,fr,til,Adr.zero,false⟩
def fC (m:List Atr) (n:Bs) (j:Nat):Atr×Bool:=if j<m.length then(if(m[j]?.getD .none).name=n then(m[j]?.getD .none,(m[j]?.getD .none).has)else fC m n (j+1))else(.none,false)
termination_by m.length-j
theorem wT (m:List Atr) (n:Bs) (j:Nat) (h:(fC m n j).2=true):(fC m n j).1∈m:=by
 rw[fC]at h⊢
 split
 ·rename_i hj
  rw[if_pos hj]at h
  split
  ·rw[List.getElem?_eq_getElem hj,Option.getD_some]
   exact List.getElem_mem hj
  ·rename_i hn
   rw[if_neg hn]at h
   exact wT m n (j+1) h
 ·rename_i hj
  rw[if_neg hj]at h
  cases h
termination_by m.length-j
def fH (m:List Tk) (a:Adr) (i:Nat):Adr:=if i<m.length then
    (if(m[i]?.getD .none).kind=2∧(m[i]?.getD .none).name=Oa∧(fC (m[i]?.getD .none).aH mV 0).2=true then
      (if(mA a (fC (m[i]?.getD .none).aH mV 0).1.val).2=0 then(mA a (fC (m[i]?.getD .none).aH mV 0).1.val).1 else a)
    else fH m a (i+1))else a
termination_by m.length-i
def pBl (r:Nat):Bool:=decide (r<128)&&aY (UInt8.ofNat r)
def iS (s:Bs):List Bs:=(Lib.goFieldsP pBl (bs s)).map (·.data.toList)
def pT (m:List Atr):Bool:=(fC m LN 0).2&&decide (Ob∈iS (small (fC m LN 0).1.val))
def Kh (st:Bool) (n t:Bs):Nat:=
 if n=A3 then 9 else if n=mV∧t=Oa then 1 else if n=mV∧(t=[97]∨t=[97,114,101,97])then 2
 else if n=mV∧t=[108,105,110,107]then(if st=true then 5 else 2)
 else if(n=[115,114,99]∧t∈([[105,109,103],[105,110,112,117,116],[115,111,117,114,99,101],[118,105,100,101,111],[97,117,100,105,111]]:List Bs))∨(n=[112,111,115,116,101,114]∧t=[118,105,100,101,111])then 3
 else if n=[115,114,99,115,101,116]∧(t=[105,109,103]∨t=[115,111,117,114,99,101])then 4
 else if n=[115,114,99]∧t=[115,99,114,105,112,116]then 6
 else if n=[115,114,99]∧(t=[102,114,97,109,101]∨t=[105,102,114,97,109,101])then 7
 else if n=[97,99,116,105,111,110]∧t=[102,111,114,109]then 8 else 0
def dD (t:Tk) (n:Bs):Nat:=Kh (pT t.aH) n t.name
theorem A4 (st:Bool) (n t:Bs):Kh st n t≤9:=by unfold Kh;(repeat' split)<;>omega
def fR (k:Nat) (v:Bs):List (Nat×Nat):=if k=4 then Rr v else if k=9 then inS v 0 else[(0,v.length)]
theorem nZ (k:Nat) (v:Bs):Ord (fR k v) 0 v.length:=by
 unfold fR
 split
 ·exact N6 v
 ·split
  ·exact lS v 0 (Nat.zero_le _)
  ·exact⟨Nat.zero_le _,Nat.zero_le _,Nat.le_refl _⟩
theorem pU (l:Bs) (i:Nat):(inS l i).length≤l.length-i:=by
 by_cases hi:i<l.length
 ·cases hs:sty l i with
  |some x=>
   have h1:=D9 qD hs
   have h2:=pU l x.2
   rw[A1 hi hs]
   simp;omega
  |none=>
   have h2:=pU l (i+1)
   rw[A2 hi hs]
   omega
 ·rw[Ea hi];simp
termination_by l.length-i
theorem sV (k:Nat) (v:Bs):(fR k v).length≤v.length+2:=by
 unfold fR
 have h1:=N7 v
 have h2:=pU v 0
 split
 ·exact h1
 ·split
  ·omega
  ·simp
def mB (m:List Atr) (i:Nat):Bool:=(m[i]?.getD .none).has&& !((m.take i).any fun x=>decide (x.name=(m[i]?.getD .none).name))
def lT (m:List Tk) (i:Nat):Bool:=decide ((m[i]?.getD .none).kind=1)&&decide (0<i)&&decide ((m[i-1]?.getD .none).kind=2)&&decide ((m[i-1]?.getD .none).name=A3)
def Ja (t:Tk) (k:Nat):Bool:=decide (t.kind=2)&&decide (dD t (t.aH[k]?.getD .none).name≠0)&&mB t.aH k
def cR (v:Bs) (x:Nat×Nat):Bs:=(v.take x.2).drop x.1
def jZ (at1 bs1:Adr) (t:Tk) (k:Nat):List Lnk:=
 if Ja t k=true then(fR (dD t (t.aH[k]?.getD .none).name) (t.aH[k]?.getD .none).val).map fun x=>iB at1 bs1 (dD t (t.aH[k]?.getD .none).name) (cR (t.aH[k]?.getD .none).val x) (t.aH[k]?.getD .none).fr (t.aH[k]?.getD .none).til else[]
def lU (p:Bs) (at1 bs1:Adr) (m:List Tk) (i:Nat):List Lnk:=
 if lT m i=true then(inS (cR p ((m[i]?.getD .none).fr,(m[i]?.getD .none).til)) 0).map fun x=>iB at1 bs1 9 (cR p ((m[i]?.getD .none).fr+x.1,(m[i]?.getD .none).fr+x.2)) ((m[i]?.getD .none).fr+x.1) ((m[i]?.getD .none).fr+x.2)else[]
def cO (at1 bs1:Adr) (t:Tk):Nat→List Lnk
 |0=>[]
 |k+1=>cO at1 bs1 t k++jZ at1 bs1 t k
def A5 (p:Bs) (at1 bs1:Adr) (m:List Tk) (i:Nat):List Lnk:=lU p at1 bs1 m i++cO at1 bs1 (m[i]?.getD .none) (m[i]?.getD .none).aH.length
def eC (p:Bs) (at1 bs1:Adr) (m:List Tk):Nat→List Lnk
 |0=>[]
 |i+1=>eC p at1 bs1 m i++A5 p at1 bs1 m i
def jV (p:Bs) (at1 bs1:Adr) (m:List Tk) (i:Nat):Nat:=if i<m.length then(if 5000<(eC p at1 bs1 m (i+1)).length then i+1 else jV p at1 bs1 m (i+1))else m.length
termination_by m.length-i
def iC (p:Bs) (at1:Adr) (m:List Tk):List Lnk:=eC p at1 (fH m at1 0) m (jV p at1 (fH m at1 0) m 0)
theorem A6 (p:Bs) (at1 bs1:Adr) (m:List Tk): ∀i j,i≤j→(eC p at1 bs1 m i).length≤(eC p at1 bs1 m j).length:=by
 intro i j h
 induction j with
 |zero=>obtain rfl:i=0:=by omega
        exact Nat.le_refl _
 |succ j ih=>
  rcases Nat.lt_or_ge i (j+1)with h2|h2
  ·have:=ih qD
   show _≤(eC p at1 bs1 m j++A5 p at1 bs1 m j).length
   rw[List.length_append]
   omega
  ·obtain rfl:i=j+1:=by omega
   exact Nat.le_refl _
theorem CH (p:Bs) (at1 bs1:Adr) (m:List Tk) (i:Nat) (hi:i≤m.length):i≤jV p at1 bs1 m i∧jV p at1 bs1 m i≤m.length∧((eC p at1 bs1 m (jV p at1 bs1 m i)).length≤5000→jV p at1 bs1 m i=m.length):=by
 rw[jV]
 split
 ·split
  ·rename_i h1 h2
   exact⟨qD,qD,fun h=>by omega⟩
  ·have:=CH p at1 bs1 m (i+1) qD
   exact⟨qD,this.2⟩
 ·exact⟨hi,Nat.le_refl _,fun _=>rfl⟩
termination_by m.length-i
theorem mW (v:Bs) (x:Nat×Nat):(cR v x).length≤v.length:=by simp[cR];omega
theorem LO (at1 bs1:Adr) (t:Tk) (k:Nat) (h: ∀a∈t.aH,a.val.length≤200000):(jZ at1 bs1 t k).length≤200002:=by
 unfold jZ
 split
 ·rename_i hk
  rw[List.length_map]
  have h1:=sV (dD t (t.aH[k]?.getD .none).name) (t.aH[k]?.getD .none).val
  have h2:(t.aH[k]?.getD .none).val.length≤200000:=by
   by_cases hl:k<t.aH.length
   ·rw[List.getElem?_eq_getElem hl,Option.getD_some]
    exact h _ (List.getElem_mem hl)
   ·rw[List.getElem?_eq_none qD]
    simp
  omega
 ·simp
theorem sW (at1 bs1:Adr) (t:Tk) (h: ∀a∈t.aH,a.val.length≤200000): ∀k,(cO at1 bs1 t k).length≤k*200002
 |0=>by simp[cO]
 |k+1=>by
  have h1:=sW at1 bs1 t h k
  have h2:=LO at1 bs1 t k h
  simp only[cO,List.length_append]
  omega
end Go.Proofs.YtdjfgcjlnfnfhaaGreatDoor
namespace Go.Proofs.YtdjfgcjlnfnfhaaGreatDoor
open Go.Lw Go.RowKit
set_option maxRecDepth 100000
set_option maxHeartbeats 1000000
def Ec (L:List Bs) (s:Bs) (j:Nat):Int:=if j<L.length then(if s=L[j]?.getD []then(j:Int)else Ec L s (j+1))else-1
termination_by L.length-j
theorem He (L:List Bs) (s:Bs) (j:Nat):0≤Ec L s j↔s∈L.drop j:=by
 rw[Ec]
 split
 ·rename_i h
  rw[List.drop_eq_getElem_cons h,List.getElem?_eq_getElem h,Option.getD_some]
  split
  ·rename_i hs
   exact⟨fun _=>List.mem_cons.2 (.inl hs),fun _=>by omega⟩
  ·rename_i hs
   rw[He L s (j+1),List.mem_cons]
   exact⟨.inr,fun h=>h.resolve_left hs⟩
 ·rename_i h
  rw[List.drop_of_length_le qD]
  simp
termination_by L.length-j
theorem CI (L:List Bs) (s:Bs) (hm:L.length≤5000002):aJ Tryz.prog 88 [cE L,str s] (int (Ec L s 0)):=by
 refine aW Tryz.func88 rfl qC Tryz.ntmps88 _ rfl qE fun C hc=>?_
 repeat' (first|refine Wd ?_|(refine Wc ?_ ?_<;>intro hb<;>try simp at hb)|refine Wn ?_|fail)
 refine aN (fun j:Nat=>⟨[(0,.d (cE L)),(1,.d (str s)),(7,.d (int L.length)),(8,.d (int j))],[]⟩) (fun j=>j≤L.length∧Ec L s 0=Ec L s j) (fun j=>L.length-j) 0 qE (aG [0,1,7,8] [] qA qA) ?_
 rintro j ⟨h1,h2⟩
 have h3:Ec L s j=if j<L.length then(if s=L[j]?.getD []then(j:Int)else Ec L s (j+1))else-1:=by rw[Ec]
 repeat' (first|refine Wd ?_|(refine Wc ?_ ?_<;>intro hb<;>try simp at hb)|refine Wn ?_|fail)
 ·rw[h2,h3,if_pos qN,if_pos hb]
  (refine Zl hc (hr:=?_))
  simp
 ·exact⟨j+1,⟨qD,by rw[h2,h3,if_pos qN,if_neg hb]⟩,qD,aC [0,1,7,8] [] qA qA qE⟩
 ·rw[h2,h3,if_neg qD]
  (refine Zl hc (hr:=?_))
  simp
theorem Ed (L:List Bs) (s:Bs) (hm:L.length≤5000002):aJ Tryz.prog 37 [cE L,str s] (tru (decide (s∈L))):=by
 refine aW Tryz.func37 rfl qC Tryz.ntmps37 _ rfl qE fun C hc=>?_
 repeat' (first|refine Wd ?_|(refine Wc ?_ ?_<;>intro hb<;>try simp at hb)|refine Zw hc (hf:=by exact CI L s hm) (hk:=?_)|refine Zq hc (hf:=by exact CI L s hm) (hk:=?_)|refine Wn ?_|fail)
 (refine Zl hc (hr:=?_))
 simp
 have:=He L s 0
 simpa using this
theorem kY (p:Nat→Bool) (s:ByteArray): ∀(f pos:Nat) (st:Option Nat) (acc:List (Nat×Nat)),(Lib.spansFromP p s f pos st acc).1.length≤acc.length+f
 |0,pos,st,acc=>by simp[Lib.spansFromP]
 |f+1,pos,st,acc=>by
  unfold Lib.spansFromP
  split
  ·split
   ·cases st with
    |some a=>
     have:=kY p s f (pos+(Utf8.decode s pos).2) none (acc++[(a,pos)])
     simp only[List.length_append,List.length_singleton]at this
     simp only
     omega
    |none=>
     have:=kY p s f (pos+(Utf8.decode s pos).2) none acc
     simp only
     omega
   ·cases st with
    |some a=>
     have:=kY p s f (pos+(Utf8.decode s pos).2) (some a) acc
     simp only
     omega
    |none=>
     have:=kY p s f (pos+(Utf8.decode s pos).2) (some pos) acc
     simp only
     omega
  ·simp
theorem A7 (s:Bs):(iS s).length≤s.length+1:=by
 have h:=kY pBl (bs s) (bs s).size 0 none []
 have hs:(bs s).size=s.length:=by simp
 unfold iS Lib.goFieldsP Lib.spansOfP Lib.closeSpans
 simp only[List.length_map]
 split
 ·simp only[List.length_append,List.length_singleton]
  simp only[List.length_nil]at h
  omega
 ·simp only[List.length_nil]at h
  omega
theorem LP {P:Program} {f:FuncId} (hf:iJ P f=true): ∀args w,(callFunc f args).run P w= .ok (.enter f args) w:=by
 intro args w
 unfold iJ at hf
 split at hf
 ·rename_i fn hfn
  simp only[Bool.and_eq_true,Bool.not_eq_true']at hf
  have hb: ¬fn.body=none:=fun e=>by simp[e]at hf
  have hn: ¬fn.name= "runtime.NumGoroutine" :=by simpa using hf.1
  simp[callFunc,hfn,hn,hb]
 ·cases hf
theorem LQ (r:Nat) (hr:r≤1114111):aJ Tryz.prog 273 [.lit (.int .i32 (r:Int))] (tru (pBl r)):=by
 refine aW Tryz.func273 rfl qC Tryz.ntmps273 _ rfl qE fun C hc=>?_
 have hB:=cU (UInt8.ofNat r)
 unfold pBl
 by_cases h:r<128
 ·have e:((UInt8.ofNat r).toNat:Int)=r:=by simp;omega
  simp only[u8,e]at hB
  repeat' (first|refine Wd ?_|(refine Wc ?_ ?_<;>intro hb<;>try simp at hb)|refine Zw hc (hf:=by exact hB) (hk:=?_)|refine Zq hc (hf:=by exact hB) (hk:=?_)|refine Wn ?_|fail)
  (refine Zl hc (hr:=?_))
  simp[h]
  intro _
  omega
 ·have h': ¬(r:Int)<128:=by omega
  repeat' (first|refine Wd ?_|(refine Wc ?_ ?_<;>intro hb<;>try simp at hb)|refine cP hc qA qA qA qA qA (fun _=>by first|exact(show aJ _ _ _ (tru false)from by exfalso;simp_all;omega)) qE qE ?_|refine cW hc qA qA qA qA qA (fun _=>by first|exact(show aJ _ _ _ (tru false)from by exfalso;simp_all;omega)) qE qE ?_|refine fX hc qQ qK qG ?_|refine dK hc qQ qK qG ?_|refine cH hc Qh qG ?_|refine dM hc qC qK qC Qh qG ?_|fail)
  (refine Zl hc (hr:=?_))
  simp[h]
theorem LR (s:Bs) (hs:s.length≤200000):aJ Tryz.prog 272 [str s,.lit (.func (.func 273) #[] #[])] (cE (iS s)):=by
 refine⟨qC,fun ok w vs hk hstd ha=>?_⟩
 have h0:kS w ok ([Value.string (bs s),Value.func (.func 273) #[] #[]].map D.lit) vs:=ha
 have hvs:vs= #[.string (bs s),.func (.func 273) #[] #[]]:=rA h0
 subst hvs
 have hcb:iJ Tryz.prog 273=true:=by kernel_rfl
 have hp:PredGrows Tryz.prog 273 #[] pBl w:=by
  intro W x hx hb
  refine((LQ x hx).2 ok W #[.int .i32 (x:Int)] (fun k hk'=>Nat.lt_of_lt_of_le (hk k hk') hb.size) (hstd.below hb) ⟨rfl,fun i d hd=>?_⟩).mono fun e w' ⟨v,he,hbl,hr⟩=>⟨?_,hbl⟩
  ·cases i with
   |zero=>cases hd;exact⟨_,rfl,.lit _⟩
   |succ i=>simp at hd
  ·rw[he]
   cases hr
   rfl
 have h:=Tryz.strings_FieldsFunc_grows 273 #[] (LP hcb) pBl (bs s) w qH hp
 have hwl:=A7 s
 have hL:(Lib.goFieldsP pBl (bs s)).length=(iS s).length:=by simp[iS]
 have hM:(Lib.goFieldsP pBl (bs s)).map Value.string=(iS s).map fun x=>Value.string (bs x):=by
  unfold iS
  rw[List.map_map]
  exact List.map_congr_left fun x _=>rfl
 rw[hL,hM]at h
 refine h.mono fun e w' ⟨A,he,hA,hro,hbl⟩=>⟨_,he,hbl,?_⟩
 obtain⟨hlen,⟨hv,_⟩|⟨g,cap,cur,hv,hg,hcell,hn,hcap,hcs,htake⟩⟩:=hro
 ·cases hv
 ·obtain⟨rfl,rfl⟩:A=g∧(iS s).length=cap:=by cases hv;exact⟨rfl,rfl⟩
  have hlt:A<w'.heap.size:=by
   rcases Nat.lt_or_ge A w'.heap.size with h|h
   ·exact h
   ·rw[Array.getElem?_eq_none h]at hcell;cases hcell
  refine .sl (iS s).length _ _ (iS s).length 1 A 0 (fun i _=> .string (bs ((iS s)[i]?.getD []))) (Nat.le_refl _) (by unfold maxLen;omega) (fun _=>⟨rfl,.inr ⟨hA,hlt⟩⟩) (fun i hi=>by simp[hi]) (fun i k hi hk=>?_) (fun i k d hi hd=>?_)
  ·obtain rfl:k=0:=by omega
   have e1:cur.toList[i]?=some (Value.string (bs ((iS s)[i]?.getD []))):=by
    have e2:=congrArg (fun l=>l[i]?) htake
    simp only[Nat.mul_one,List.getElem?_take,if_pos hi]at e2
    rw[e2,List.getElem?_map,List.getElem?_eq_getElem hi]
    rfl
   simp only[World.cell?,hcell,Nat.zero_add,Nat.mul_one,Nat.add_zero,Option.isSome_none,Bool.false_eq_true,if_false]
   rw[←Array.getElem?_toList]
   exact e1
  ·cases k with
   |zero=>
    rw[List.getElem?_map,List.getElem?_eq_getElem hi]at hd
    rw[List.getElem?_eq_getElem hi]
    cases hd
    exact .lit _
   |succ k=>
    rw[List.getElem?_map,List.getElem?_eq_getElem hi]at hd
    simp at hd
theorem Hf (t:Tk) (n:Bs) (hl:t.aH.length≤200000):aJ Tryz.prog 268 [.agg (LK t),str n] (.tup [.agg (rP (fC t.aH n 0).1),tru (fC t.aH n 0).2]):=by
 refine aW Tryz.func268 rfl qC Tryz.ntmps268 _ rfl qE fun C hc=>?_
 generalize hm:t.aH=m at hl⊢
 repeat' (first|refine Wd ?_|(refine Wc ?_ ?_<;>intro hb<;>try simp at hb)|refine Wn ?_|fail)
 rw[hm]
 refine aN (fun j:Nat=>⟨[(1,.d (str n)),(4,.bp 4 0),(5,.d (tru false)),(9,.d (gP m)),(10,.d (int m.length)),(11,.d (int j))],[(4,.box 220 [.d (str []),.d (str []),.d (int 0),.d (int 0),.d (tru false)])]⟩) (fun j=>j≤m.length∧fC m n 0=fC m n j) (fun j=>m.length-j) 0 qE (aG [1,4,5,9,10,11] [4] qA qA) ?_
 rintro j ⟨hj,hA⟩
 have hst:fC m n j=if j<m.length then(if(m[j]?.getD .none).name=n then(m[j]?.getD .none,(m[j]?.getD .none).has)else fC m n (j+1))else(.none,false):=by rw[fC]
 repeat' (first|refine Wd ?_|(refine Wc ?_ ?_<;>intro hb<;>try simp at hb)|refine Wn ?_|fail)
 ·rw[hA,hst,if_pos qN,if_pos hb]
  (apply Xd 5 hc;(focus(refine Xp 1 hc (hk:=?_);refine aI 0 [0,3,4] hc rfl qC rfl qA qF qE qA ?_;refine Xa [2,3] (hx:=?_);refine⟨?_,?_⟩;(focus(refine Xw hc (hk:=?_);refine Xa [3] (hx:=?_);(focus(refine Xw hc (hk:=?_);refine Xm 4 hc (hk:=?_);refine Xz (hk:=?_);exact Xk [4,5] [4]))));(focus(refine Xw hc (hk:=?_);refine aI 2 [2,4] hc rfl qC rfl qA qF qE qA ?_;refine Xm 4 hc (hk:=?_);refine Xz (hk:=?_);exact Xb [4,5] [4])))))
  repeat' (first|refine Wd ?_|(refine Wc ?_ ?_<;>intro hb<;>try simp at hb)|refine Wn ?_|fail)
  (refine Zl hc (hr:=?_))
  simp
 ·exact⟨j+1,⟨qD,by rw[hA,hst,if_pos qN,if_neg hb]⟩,qD,aC [1,4,5,9,10,11] [4] qA qA qE⟩
 ·rw[hA,hst,if_neg qD]
  (refine Zl hc (hr:=?_))
  simp
structure Sm (m:List Tk):Prop where
 len:m.length≤20000
 aH: ∀i:Nat,(m[i]?.getD Tk.none).aH.length≤200000
 Ru: ∀i:Nat,∀a∈(m[i]?.getD Tk.none).aH,a.val.length≤200000
theorem Rv (m:List Tk) (a:Adr) (hF:a.Fits) (hm:Sm m):aJ Tryz.prog 177 [dX m,dI a] (dI (fH m a 0)):=by
 refine aW Tryz.func177 rfl qC Tryz.ntmps177 _ rfl qE fun C hc=>?_
 have hml:=hm.len
 repeat' (first|refine Wd ?_|(refine Wc ?_ ?_<;>intro hb<;>try simp at hb)|refine Wn ?_|fail)
 refine aN (fun j:Nat=>⟨[(3,.bp 3 0),(4,.bp 4 0),(11,.d (dX m)),(12,.d (int m.length)),(13,.d (int j))],[(3,.box 54 ((S5 a).map V.d)),(4,.box 54 ((S5 Adr.zero).map V.d))]⟩) (fun j=>j≤m.length∧fH m a 0=fH m a j) (fun j=>m.length-j) 0 qE (aG [3,4,11,12,13] [3,4] qA qA) ?_
 rintro j ⟨hj,hA⟩
 have hst:fH m a j=if j<m.length then
  (if(m[j]?.getD .none).kind=2∧(m[j]?.getD .none).name=Oa∧(fC (m[j]?.getD .none).aH mV 0).2=true then
    (if(mA a (fC (m[j]?.getD .none).aH mV 0).1.val).2=0 then(mA a (fC (m[j]?.getD .none).aH mV 0).1.val).1 else a)
  else fH m a (j+1))else a:=by rw[fH]
 have hat:=Hf (m[j]?.getD .none) mV (hm.aH j)
 have hv:(fC (m[j]?.getD .none).aH mV 0).2=true→(fC (m[j]?.getD .none).aH mV 0).1.val.length≤200000:=fun h=>hm.Ru j _ (wT _ _ _ h)
 generalize fC (m[j]?.getD .none).aH mV 0=x at hat hv hst
 obtain⟨x,o⟩:=x
 simp only at hat hv hst
 by_cases hx:x.val.length≤200000
 ·have hR:=sS a x.val hF qD
  generalize mA a x.val=r at hR hst
  obtain⟨r,f⟩:=r
  simp only at hR hst
  repeat' (first|refine Wd ?_|(refine Wc ?_ ?_<;>intro hb<;>try simp at hb)|refine Zw hc (hf:=by first|exact hat|exact hR) (hk:=?_)|refine Zq hc (hf:=by first|exact hat|exact hR) (hk:=?_)|refine Wn ?_|fail)
  ·exact⟨j+1,⟨qD,by
    rw[hA,hst,if_pos qN,if_neg]
    rintro⟨k1,k2,k3⟩
    rcases hb with e|e
    ·omega
    ·exact e k2⟩,qD,aC [3,4,11,12,13] [3,4] qA qA qE⟩
  ·rename_i b1 b2 b3
   rw[hA,hst,if_pos b1,if_pos ⟨qD,b2.2,b3⟩,if_pos hb]
   (refine Zl hc (hr:=?_))
   simp
  ·rename_i b1 b2 b3
   rw[hA,hst,if_pos b1,if_pos ⟨qD,b2.2,b3⟩,if_neg hb]
   (refine Zl hc (hr:=?_))
   simp
  ·exact⟨j+1,⟨qD,by
    rw[hA,hst,if_pos qN,if_neg]
    rintro⟨k1,k2,k3⟩
    rw[hb]at k3
    cases k3⟩,qD,aC [3,4,11,12,13] [3,4] qA qA qE⟩
  ·rw[hA,hst,if_neg qD]
   (refine Zl hc (hr:=?_))
   simp
 ·have ho:o=false:=by cases o with
   |false=>rfl
   |true=>exact absurd (hv rfl) hx
  subst ho
  repeat' (first|refine Wd ?_|(refine Wc ?_ ?_<;>intro hb<;>try simp at hb)|refine Zw hc (hf:=by exact hat) (hk:=?_)|refine Zq hc (hf:=by exact hat) (hk:=?_)|refine Wn ?_|fail)
  all_goals try contradiction
  ·exact⟨j+1,⟨qD,by
    rw[hA,hst,if_pos qN,if_neg]
    rintro⟨k1,k2,k3⟩
    cases k3⟩,qD,aC [3,4,11,12,13] [3,4] qA qA qE⟩
  ·exact⟨j+1,⟨qD,by
    rw[hA,hst,if_pos qN,if_neg]
    rintro⟨k1,k2,k3⟩
    cases k3⟩,qD,aC [3,4,11,12,13] [3,4] qA qA qE⟩
  ·rw[hA,hst,if_neg qD]
   (refine Zl hc (hr:=?_))
   simp
theorem sX (t:Tk) (hl:t.aH.length≤200000) (hv: ∀a∈t.aH,a.val.length≤200000):aJ Tryz.prog 179 [.agg (LK t)] (tru (pT t.aH)):=by
 refine aW Tryz.func179 rfl qC Tryz.ntmps179 _ rfl qE fun C hc=>?_
 have hat:=Hf t LN hl
 have hv2:(fC t.aH LN 0).2=true→(fC t.aH LN 0).1.val.length≤200000:=fun h=>hv _ (wT _ _ _ h)
 unfold pT
 generalize fC t.aH LN 0=x at hat hv2⊢
 obtain⟨x,o⟩:=x
 simp only at hat hv2⊢
 cases o with
 |false=>
  repeat' (first|refine Wd ?_|(refine Wc ?_ ?_<;>intro hb<;>try simp at hb)|refine Zw hc (hf:=by exact hat) (hk:=?_)|refine Zq hc (hf:=by exact hat) (hk:=?_)|refine Wn ?_|fail)
  all_goals try contradiction
  (refine Zl hc (hr:=?_))
  simp
 |true=>
  have hxl:=hv2 rfl
  have hSm:=bP x.val qD
  have hsl:(small x.val).length≤200000:=by simpa using hxl
  have hF:=LR (small x.val) hsl
  have hwl:=A7 (small x.val)
  have hCo:=Ed (iS (small x.val)) Ob qD
  repeat' (first|refine Wd ?_|(refine Wc ?_ ?_<;>intro hb<;>try simp at hb)|refine Zw hc (hf:=by first|exact hat|exact hSm|exact hF|exact hCo) (hk:=?_)|refine Zq hc (hf:=by first|exact hat|exact hSm|exact hF|exact hCo) (hk:=?_)|refine Wn ?_|fail)
  all_goals try contradiction
  (refine Zl hc (hr:=?_))
  simp
def Sn (n t:Bs):Nat:=
 if(n=[115,114,99]∧t∈([[105,109,103],[105,110,112,117,116],[115,111,117,114,99,101],[118,105,100,101,111],[97,117,100,105,111]]:List Bs))∨(n=[112,111,115,116,101,114]∧t=[118,105,100,101,111])then 3
 else if n=[115,114,99,115,101,116]∧(t=[105,109,103]∨t=[115,111,117,114,99,101])then 4
 else if n=[115,114,99]∧t=[115,99,114,105,112,116]then 6
 else if n=[115,114,99]∧(t=[102,114,97,109,101]∨t=[105,102,114,97,109,101])then 7
 else if n=[97,99,116,105,111,110]∧t=[102,111,114,109]then 8 else 0
theorem Oc (st:Bool) (n t:Bs):Kh st n t=if n=[115,116,121,108,101]then 9 else if n=[104,114,101,102]∧t=[98,97,115,101]then 1 else if n=[104,114,101,102]∧(t=[97]∨t=[97,114,101,97])then 2 else if n=[104,114,101,102]∧t=[108,105,110,107]then(if st=true then 5 else 2)else Sn n t:=rfl
theorem wU (t:Tk) (n:Bs) (hS:aJ Tryz.prog 179 [.agg (LK t)] (tru (pT t.aH))):aJ Tryz.prog 111 [.agg (LK t),str n] (int (dD t n)):=by
 refine aW Tryz.func111 rfl qC Tryz.ntmps111 _ rfl qE fun C hc=>?_
 have hc5:=iN [[105,109,103],[105,110,112,117,116],[115,111,117,114,99,101],[118,105,100,101,111],[97,117,100,105,111]] t.name qK
 unfold dD
 rw[Oc]
 generalize pT t.aH=st at hS⊢
 repeat' (first|refine Wd ?_|(refine Wc ?_ ?_<;>intro hb<;>try simp at hb)|refine Zw hc (hf:=Qf) (hk:=?_)|refine Zq hc (hf:=Qf) (hk:=?_)|refine Wn ?_|fail)
 ·rw[if_pos hb]
  (refine Zl hc (hr:=?_))
  simp
 ·rename_i b1
  rw[if_neg b1,if_pos hb]
  (refine Zl hc (hr:=?_))
  simp
 ·rename_i b1 b2
  rw[if_neg b1,if_neg (fun h=>b2 h.1 h.2),if_pos hb]
  (refine Zl hc (hr:=?_))
  simp
 ·rename_i b1 b2 b3 b4
  rw[if_neg b1,if_neg (fun h=>b2 h.1 h.2),if_neg (fun h=>h.2.elim (b3 h.1).1 (b3 h.1).2),if_pos b4,if_pos hb]
  (refine Zl hc (hr:=?_))
  simp
 ·rename_i b1 b2 b3 b4
  rw[if_neg b1,if_neg (fun h=>b2 h.1 h.2),if_neg (fun h=>h.2.elim (b3 h.1).1 (b3 h.1).2),if_pos b4,if_neg (by rw[hb];decide)]
  (refine Zl hc (hr:=?_))
  simp
 ·rename_i b1 b2 b3
  rw[if_neg b1,if_neg (fun h=>b2 h.1 h.2),if_neg (fun h=>h.2.elim (b3 h.1).1 (b3 h.1).2),if_neg (fun h=>hb h.1 h.2)]
  unfold Sn
  by_cases hs:n=[115,114,99]
  ·subst hs
   repeat' (first|refine Wd ?_|(refine Wc ?_ ?_<;>intro hb<;>try simp at hb)|refine Zw hc (hf:=by exact hc5) (hk:=?_)|refine Zq hc (hf:=by exact hc5) (hk:=?_)|refine Wn ?_|fail)
   all_goals try contradiction
   all_goals(refine Zl hc (hr:=?_))
   all_goals simp_all
  ·have hs2:(n==[115,114,99])=false:=beq_false_of_ne hs
   repeat' (first|refine lJ ?_|refine dE hc (by simp[hs2];exact Ends.go) qG ?_|refine jS hc qC qC (by simp[hs2];exact Ends.go) qG ?_|refine iE ?_|refine eA ?_|refine gY ?_|refine fN ?_|refine jO ?_|refine iG ?_|refine jP ?_|refine iF ?_|refine eX ?_|refine jA ?_|refine gW ?_|refine dZ ?_|refine gX ?_|refine eU ?_|refine dV qK ?_|refine lK ?_|refine e9 ?_|refine eY ?_|(refine gK qW (fun hb=>?_) (fun hb=>?_)<;>(try simp at hb))|refine iM hc qW qE ?_|refine cP hc qW qW qW qW qW (fun _=>by first|exact trivial) qE qE ?_|refine cW hc qW qW qW qW qW (fun _=>by first|exact trivial) qE qE ?_|refine fX hc (by simp[hs2];first|exact Ends.go|exact Ends.halt) qK qG ?_|refine dK hc (by simp[hs2];first|exact Ends.go|exact Ends.halt) qK qG ?_|refine cH hc (by simp[hs2];exact Ends.halt) qG ?_|refine dM hc qC qK qC (by simp[hs2];exact Ends.halt) qG ?_|fail)
   all_goals try contradiction
   all_goals try((refine Zl hc (hr:=?_));simp_all;done)
   rename_i x5 x4 x3 x2 x1 x0
   rw[if_neg (fun h=>h.elim (fun h=>hs h.1) (fun h=>x3 h.1 h.2)),if_neg (fun h=>h.2.elim (x2 h.1).1 (x2 h.1).2),if_neg (fun h=>hs h.1),if_neg (fun h=>hs h.1),if_neg (fun h=>hb h.1 h.2)]
   (refine Zl hc (hr:=?_))
   simp
theorem A8 (k:Nat) (v:Bs) (hk:k≤9) (hv:v.length≤200000):aJ Tryz.prog 113 [int k,str v] (A0 (fR k v)):=by
 refine aW Tryz.func113 rfl qC Tryz.ntmps113 _ rfl qE fun C hc=>?_
 have h1:=LM v hv
 have h2:=nY v hv
 unfold fR
 repeat' (first|refine Wd ?_|(refine Wc ?_ ?_<;>intro hb<;>try simp at hb)|refine Zw hc (hf:=QE) (hk:=?_)|refine Zq hc (hf:=QE) (hk:=?_)|refine Wn ?_|fail)
 ·rw[if_pos qD]
  (refine Zl hc (hr:=?_))
  simp[Rr]
 ·rw[if_neg qD,if_pos qD]
  (refine Zl hc (hr:=?_))
  simp
 ·rw[if_neg qD,if_neg qD]
  (refine Zl hc (hr:=?_))
  simp only[BA,A0,List.length_singleton]
  congr 1
  funext i
  cases i<;>simp
def mC (n:Nat) (L:List Atr) (p:Atr→Bool) (j:Nat):Int:=if j<n then(if p (L[j]?.getD .none)=true then(j:Int)else mC n L p (j+1))else-1
termination_by n-j
theorem A9 (n:Nat) (L:List Atr) (p:Atr→Bool) (hn:n≤L.length) (j:Nat):0≤mC n L p j↔((L.take n).drop j).any p=true:=by
 rw[mC]
 split
 ·rename_i h
  have hl:j<(L.take n).length:=by simp;omega
  rw[List.drop_eq_getElem_cons hl,List.any_cons]
  have hw:L[j]?.getD .none=(L.take n)[j]:=by
   rw[List.getElem_take,List.getElem?_eq_getElem qD,Option.getD_some]
  rw[hw]
  split
  ·rename_i hp
   rw[hp,Bool.true_or]
   exact⟨fun _=>rfl,fun _=>Int.natCast_nonneg j⟩
  ·rename_i hp
   rw[Bool.eq_false_iff.2 hp,Bool.false_or]
   exact A9 n L p hn (j+1)
 ·rename_i h
  rw[List.drop_of_length_le qH]
  simp
termination_by n-j
theorem Od (n:Nat) (L:List Atr) (hl:n≤200000) (g:FuncId) (caps:List D) (p:Atr→Bool) (hf: ∀j,j<n→aJ Tryz.prog g (.agg (rP (L[j]?.getD .none))::caps) (tru (p (L[j]?.getD .none)))):
 aJ Tryz.prog 274 [.sl n fun i=>rP (L[i]?.getD .none),.clo (.func g) caps] (int (mC n L p 0)):=by
 refine aW Tryz.func274 rfl qC Tryz.ntmps274 _ rfl qE fun C hc=>?_
 repeat' (first|refine Wd ?_|(refine Wc ?_ ?_<;>intro hb<;>try simp at hb)|refine Wn ?_|fail)
 refine aN (fun j:Nat=>⟨[(0,.d (.sl n fun i=>rP (L[i]?.getD .none))),(1,.d (.clo (.func g) caps)),(7,.d (int n)),(8,.d (int j))],[]⟩) (fun j=>j≤n∧mC n L p 0=mC n L p j) (fun j=>n-j) 0 qE (aG [0,1,7,8] [] qA qA) ?_
 rintro j ⟨hj,hA⟩
 have hst:mC n L p j=if j<n then(if p (L[j]?.getD .none)=true then(j:Int)else mC n L p (j+1))else-1:=by rw[mC]
 by_cases hlt:j<n
 ·have hC:=hf j hlt
  generalize p (L[j]?.getD .none)=b at hC hst
  repeat' (first|refine Wd ?_|(refine Wc ?_ ?_<;>intro hb<;>try simp at hb)|refine Zw hc (hf:=qV) (hk:=?_)|refine Zq hc (hf:=qV) (hk:=?_)|refine Wn ?_|fail)
  all_goals try contradiction
  all_goals try(exfalso;omega)
  ·rw[hA,hst,if_pos hlt,if_pos hb]
   (refine Zl hc (hr:=?_))
   simp
  ·exact⟨j+1,⟨qD,by rw[hA,hst,if_pos hlt,if_neg (by simp[hb])]⟩,qD,aC [0,1,7,8] [] qA qA qE⟩
 ·repeat' (first|refine Wd ?_|(refine Wc ?_ ?_<;>intro hb<;>try simp at hb)|refine Wn ?_|fail)
  all_goals try contradiction
  all_goals try(exfalso;omega)
  rw[hA,hst,if_neg hlt]
  (refine Zl hc (hr:=?_))
  simp
theorem BP (n:Nat) (L:List Atr) (hn:n≤L.length) (hl:n≤200000) (g:FuncId) (caps:List D) (p:Atr→Bool) (hf: ∀j,j<n→aJ Tryz.prog g (.agg (rP (L[j]?.getD .none))::caps) (tru (p (L[j]?.getD .none)))):
 aJ Tryz.prog 180 [.sl n fun i=>rP (L[i]?.getD .none),.clo (.func g) caps] (tru ((L.take n).any p)):=by
 refine aW Tryz.func180 rfl qC Tryz.ntmps180 _ rfl qE fun C hc=>?_
 have hI:=Od n L hl g caps p hf
 have ha:=A9 n L p hn 0
 rw[List.drop_zero]at ha
 generalize mC n L p 0=r at hI ha
 repeat' (first|refine Wd ?_|(refine Wc ?_ ?_<;>intro hb<;>try simp at hb)|refine Zw hc (hf:=Qu) (hk:=?_)|refine Zq hc (hf:=Qu) (hk:=?_)|refine Wn ?_|fail)
 (refine Zl hc (hr:=?_))
 have e:decide (0≤r)=(L.take n).any p:=by rw[Bool.eq_iff_iff,decide_eq_true_iff];exact ha
 rw[←e]
 rfl
theorem Hg (x a:Atr):aJ Tryz.prog 181 [.agg (rP x),.ip (rP a) 0] (tru (decide (x.name=a.name))):=by
 refine aW Tryz.func181 rfl qC Tryz.ntmps181 _ rfl qE fun C hc=>?_
 repeat' (first|refine Wd ?_|(refine Wc ?_ ?_<;>intro hb<;>try simp at hb)|refine Wn ?_|fail)
 (refine Zl hc (hr:=?_))
 refine bT ?_
 rw[Bool.eq_iff_iff];simp
theorem sY (t:Tk) (i:Nat) (hl:t.aH.length≤200000) (hi:i<t.aH.length):aJ Tryz.prog 112 [.agg (LK t),int i] (tru (mB t.aH i)):=by
 refine aW Tryz.func112 rfl qC Tryz.ntmps112 _ rfl qE fun C hc=>?_
 have hC:=BP i t.aH qD qD 181 [.ip (rP (t.aH[i]?.getD .none)) 0] (fun x=>decide (x.name=(t.aH[i]?.getD .none).name)) fun j hj=>Hg _ _
 unfold mB
 repeat' (first|refine Wd ?_|(refine Wc ?_ ?_<;>intro hb<;>try simp at hb)|refine Zw hc (hf:=qV) (hk:=?_)|refine Zq hc (hf:=qV) (hk:=?_)|refine Wn ?_|fail)
 (refine Zl hc (hr:=?_))
 simp
theorem uW (m:List Tk) (i:Nat) (hm:m.length≤20000) (hi:i<m.length):aJ Tryz.prog 110 [dX m,int i] (tru (lT m i)):=by
 refine aW Tryz.func110 rfl qC Tryz.ntmps110 _ rfl qE fun C hc=>?_
 by_cases h0:0<i
 ·have e:((i:Int)-1).toNat=i-1:=by omega
  repeat' (first|refine Wd ?_|(refine Wc ?_ ?_<;>intro hb<;>try simp at hb)|refine Wn ?_|fail)
  (refine Zl hc (hr:=?_))
  refine bT ?_
  have hd:((m[i-1]?.getD .none).name==[115,116,121,108,101])=decide ((m[i-1]?.getD .none).name=A3):=by
   by_cases hn:(m[i-1]?.getD .none).name=A3
   ·rw[decide_eq_true hn,hn];rfl
   ·rw[decide_eq_false hn];exact beq_false_of_ne hn
  unfold lT
  rw[hd]
  generalize decide ((m[i-1]?.getD .none).name=A3)=d
  rw[Bool.eq_iff_iff]
  cases d<;>simp[h0]<;>omega
 ·obtain rfl:i=0:=by omega
  repeat' (first|refine Wd ?_|(refine Wc ?_ ?_<;>intro hb<;>try simp at hb)|refine Wn ?_|fail)
  (refine Zl hc (hr:=?_))
  refine bT ?_
  rw[Bool.eq_iff_iff];simp[lT]
abbrev dfL:List D:=[.lit (.int .i64 0),.lit (.string (bs [])),.lit (.int .i64 0),.lit (.int .i64 0),.lit (.string (bs [])),.lit (.string (bs [])),.lit (.string (bs [])),.lit (.string (bs [])),.lit (.string (bs [])),.lit (.bool false),.lit (.string (bs [])),.lit (.bool false),.lit (.bool false)]
@[simp] theorem VR (o:Option Lnk):(Option.map Eb o).getD dfL=Eb (o.getD .none):=by cases o<;>rfl
abbrev WW (a b:Adr):List V:=[.d (str a.scheme),.d (str a.host),.d (str a.port),.d (str a.path),.d (str a.query),.d (tru a.eI),.d (str a.dH),.d (tru a.fK),.d (str b.scheme),.d (str b.host),.d (str b.port),.d (str b.path),.d (str b.query),.d (tru b.eI),.d (str b.dH),.d (tru b.fK)]
abbrev fnd (x y:Nat) (a b:Adr) (m:List Lnk):List (Nat×O):=[(x,.box 204 (WW a b++[.os y m.length])),(y,.own 118 13 (true,dfL) (m.map Eb))]
theorem Ee (a b:Adr) (ha:a.Fits) (hb:b.Fits) (m:List Lnk) (k:Nat) (text:Bs) (fr til:Nat) (hm:m.length≤100000000000) (ht:text.length≤200000) (hk:k≤9):
 bJ Tryz.prog 101 [.bp 100000 0,.d (int k),.d (str text),.d (.agg [int fr,int til])] (fnd 100000 50001 a b m) (.d (.tup [])) (fnd 100000 50001 a b (m++[iB a b k text fr til])):=by
 refine cY Tryz.func101 rfl qC Tryz.ntmps101 _ rfl qE fun C hc=>?_
 have hR:aJ Tryz.prog 169 [dI (if k=1 then a else b),str text] (.tup [dI (mA (if k=1 then a else b) text).1,int (mA (if k=1 then a else b) text).2]):=sS _ text (by split<;>assumption) qD
 unfold iB
 generalize mA (if k=1 then a else b) text=r at hR⊢
 obtain⟨r,f⟩:=r
 simp only at hR⊢
 have hR':aJ Tryz.prog 169 [dI (if k=1 then a else b),str text] (.tup [dI r,int f]):=hR
 by_cases h1:k=1
 ·rw[if_pos h1]at hR'
  repeat' (first|refine Wd ?_|(refine Wc ?_ ?_<;>intro hb<;>try simp at hb)|refine Zw hc (hf:=by exact hR') (hk:=?_)|refine Zq hc (hf:=by exact hR') (hk:=?_)|refine Wn ?_|fail)
  all_goals try(exfalso;omega)
  all_goals refine bA (aG [0,8] [100000,50001,8] qA qA) ?_
  ·rw[if_pos hb]
   clear hR hR' ha
   (apply Xd 11 hc;(focus(refine Xm 0 hc (hk:=?_);refine Xm 1 hc (hk:=?_);refine Xp 2 hc (hk:=?_);refine Xp 3 hc (hk:=?_);refine aI 5 [5,6,7,8,9,10] hc rfl qC rfl qA qF qE qA ?_;refine Xa [4,6] (hx:=?_);refine⟨?_,?_⟩;(focus(refine Xw hc (hk:=?q80);refine Xa [6] (hx:=?nq80);(focus(refine Xw hc (hk:=?q81);refine Xa [7] (hx:=?nq81);(focus(refine Xw hc (hk:=?q82);refine Xp 8 hc (hk:=?nq82);refine Xp 9 hc (hk:=?_);refine Xa [10] (hx:=?_);(focus(refine Xw hc (hk:=?q83);refine Xz (hk:=?nq83);exact Xk [0] [100000,50001]))))))));(focus(refine Xw hc (hk:=?q84);refine aI 4 [4,7,8,9,10] hc rfl qC rfl qA qF qE qA ?nq84;refine Xa [7] (hx:=?_);(focus(refine Xw hc (hk:=?_);exact Xq ?q82)))))))
   repeat' (first|refine Wd ?_|(refine Wc ?_ ?_<;>intro hb<;>try simp at hb)|refine Wn ?_|fail)
   (refine aE [100000,50001] hc (aR rfl) qA qA qJ ?_)
   simp
  ·rw[if_neg hb]
   clear hR hR' ha
   (apply Xd 11 hc;(focus(refine Xm 0 hc (hk:=?_);refine Xm 1 hc (hk:=?_);refine Xp 2 hc (hk:=?_);refine Xp 3 hc (hk:=?_);refine aI 5 [5,6,7,8,9,10] hc rfl qC rfl qA qF qE qA ?_;refine Xa [4,6] (hx:=?_);refine⟨?_,?_⟩;(focus(refine Xw hc (hk:=?qb80);refine Xa [6] (hx:=?nqb80);(focus(refine Xw hc (hk:=?qb81);refine Xa [7] (hx:=?nqb81);(focus(refine Xw hc (hk:=?qb82);refine Xp 8 hc (hk:=?nqb82);refine Xp 9 hc (hk:=?_);refine Xa [10] (hx:=?_);(focus(refine Xw hc (hk:=?qb83);refine Xz (hk:=?nqb83);exact Xk [0] [100000,50001]))))))));(focus(refine Xw hc (hk:=?qb84);refine aI 4 [4,7,8,9,10] hc rfl qC rfl qA qF qE qA ?nqb84;refine Xa [7] (hx:=?_);(focus(refine Xw hc (hk:=?_);exact Xq ?qb82)))))))
   repeat' (first|refine Wd ?_|(refine Wc ?_ ?_<;>intro hb<;>try simp at hb)|refine Wn ?_|fail)
   (refine aE [100000,50001] hc (aR rfl) qA qA qJ ?_)
   simp
 ·rw[if_neg h1]at hR'
  repeat' (first|refine Wd ?_|(refine Wc ?_ ?_<;>intro hb<;>try simp at hb)|refine Zw hc (hf:=by exact hR') (hk:=?_)|refine Zq hc (hf:=by exact hR') (hk:=?_)|refine Wn ?_|fail)
  all_goals try(exfalso;omega)
  all_goals refine bA (aG [0,8] [100000,50001,8] qA qA) ?_
  ·rw[if_pos hb]
   clear hR hR' ha
   (apply Xd 11 hc;(focus(refine Xm 0 hc (hk:=?_);refine Xm 1 hc (hk:=?_);refine Xp 2 hc (hk:=?_);refine Xp 3 hc (hk:=?_);refine aI 5 [5,6,7,8,9,10] hc rfl qC rfl qA qF qE qA ?_;refine Xa [4,6] (hx:=?_);refine⟨?_,?_⟩;(focus(refine Xw hc (hk:=?qc80);refine Xa [6] (hx:=?nqc80);(focus(refine Xw hc (hk:=?qc81);refine Xa [7] (hx:=?nqc81);(focus(refine Xw hc (hk:=?qc82);refine Xp 8 hc (hk:=?nqc82);refine Xp 9 hc (hk:=?_);refine Xa [10] (hx:=?_);(focus(refine Xw hc (hk:=?qc83);refine Xz (hk:=?nqc83);exact Xk [0] [100000,50001]))))))));(focus(refine Xw hc (hk:=?qc84);refine aI 4 [4,7,8,9,10] hc rfl qC rfl qA qF qE qA ?nqc84;refine Xa [7] (hx:=?_);(focus(refine Xw hc (hk:=?_);exact Xq ?qc82)))))))
   repeat' (first|refine Wd ?_|(refine Wc ?_ ?_<;>intro hb<;>try simp at hb)|refine Wn ?_|fail)
   (refine aE [100000,50001] hc (aR rfl) qA qA qJ ?_)
   simp
  ·rw[if_neg hb]
   clear hR hR' ha
   (apply Xd 11 hc;(focus(refine Xm 0 hc (hk:=?_);refine Xm 1 hc (hk:=?_);refine Xp 2 hc (hk:=?_);refine Xp 3 hc (hk:=?_);refine aI 5 [5,6,7,8,9,10] hc rfl qC rfl qA qF qE qA ?_;refine Xa [4,6] (hx:=?_);refine⟨?_,?_⟩;(focus(refine Xw hc (hk:=?qd80);refine Xa [6] (hx:=?nqd80);(focus(refine Xw hc (hk:=?qd81);refine Xa [7] (hx:=?nqd81);(focus(refine Xw hc (hk:=?qd82);refine Xp 8 hc (hk:=?nqd82);refine Xp 9 hc (hk:=?_);refine Xa [10] (hx:=?_);(focus(refine Xw hc (hk:=?qd83);refine Xz (hk:=?nqd83);exact Xk [0] [100000,50001]))))))));(focus(refine Xw hc (hk:=?qd84);refine aI 4 [4,7,8,9,10] hc rfl qC rfl qA qF qE qA ?nqd84;refine Xa [7] (hx:=?_);(focus(refine Xw hc (hk:=?_);exact Xq ?qd82)))))))
   repeat' (first|refine Wd ?_|(refine Wc ?_ ?_<;>intro hb<;>try simp at hb)|refine Wn ?_|fail)
   (refine aE [100000,50001] hc (aR rfl) qA qA qJ ?_)
   simp
def n0 (l:Bs) (a:Adr):List Lnk:=(inS l 0).map fun x=>iB a a 9 (cR l x) x.1 x.2
def stE (l:Bs) (a:Adr):Nat:=if 200000<l.length then 2 else if bX a≠0 then bX a else if 5000<(inS l 0).length then 2 else 0
theorem LS (l:Bs) (a:Adr) (j:Nat) (hj:j<(inS l 0).length):(n0 l a).take (j+1)=(n0 l a).take j++[iB a a 9 (cR l ((inS l 0)[j]?.getD (0,0))) ((inS l 0)[j]?.getD (0,0)).1 ((inS l 0)[j]?.getD (0,0)).2]:=by
 have hl:j<(n0 l a).length:=by simpa[n0]using hj
 rw[List.take_succ_eq_append_getElem hl]
 congr 2
 simp[n0,List.getElem?_eq_getElem hj]
theorem rY (l:Bs) (a:Adr) (hm:l.length≤maxLen) (ha:a.Fits):aJ Tryz.prog 43 [byS l,dI a] (if stE l a=0 then .tup [oK (n0 l a),int 0]else .tup [fQ,int (stE l a)]):=by
 refine aW Tryz.func43 rfl qC Tryz.ntmps43 _ rfl qE fun C hc=>?_
 unfold maxLen at hm
 have hC:=eL a ha
 unfold stE
 by_cases hl:200000<l.length
 ·rw[if_pos hl,if_neg qK]
  repeat' (first|refine Wd ?_|(refine Wc ?_ ?_<;>intro hb<;>try simp at hb)|refine Zw hc (hf:=qV) (hk:=?_)|refine Zq hc (hf:=qV) (hk:=?_)|refine Wm ?_|fail)
  all_goals try(exfalso;omega)
  (refine Zl hc (hr:=?_))
  simp
 rw[if_neg hl]
 have hS:=nY l qD
 by_cases h0:bX a=0
 rotate_left
 ·rw[if_pos h0,if_neg h0]
  repeat' (first|refine Wd ?_|(refine Wc ?_ ?_<;>intro hb<;>try simp at hb)|refine Zw hc (hf:=qV) (hk:=?_)|refine Zq hc (hf:=qV) (hk:=?_)|refine Wm ?_|fail)
  all_goals try contradiction
  all_goals try(exfalso;omega)
  (refine Zl hc (hr:=?_))
  simp
 rw[if_neg (show¬bX a≠0 from fun h=>h h0)]
 rw[h0]at hC
 have hO:=lS l 0 (Nat.zero_le _)
 have hlen:=pU l 0
 have hsl:(n0 l a).length=(inS l 0).length:=by simp[n0]
 have hnx:=LS l a
 generalize n0 l a=R at hsl hnx⊢
 generalize inS l 0=X at hS hO hlen hsl hnx⊢
 repeat' (first|refine Wd ?_|(refine Wc ?_ ?_<;>intro hb<;>try simp at hb)|refine Zw hc (hf:=qaG) (hk:=?_)|refine Zq hc (hf:=qaG) (hk:=?_)|refine Wm ?_|fail)
 all_goals try contradiction
 all_goals try(exfalso;omega)
 refine aN (fun x:Nat×List Lnk=>⟨[(7,.d (str l)),(8,.bp 24 0),(26,.d (A0 X)),(27,.d (int X.length)),(28,.d (int x.1))],fnd 24 40000 a a x.2⟩) (fun x=>x.1≤X.length∧x.2=R.take x.1) (fun x=>X.length-x.1) (0,[]) qE (cQ [(24,some 16,40000,118,dfL)] [7,8,26,27,28] [24,40000] qA qA qA) ?_
 rintro⟨j,m⟩ ⟨hj,hA⟩
 simp only at hj hA⊢
 have hml:m.length=j:=by rw[hA];simp;omega
 by_cases hlt:j<X.length
 ·have hx:=hO.get j hlt
  have hn:=hnx j hlt
  rw[←hA]at hn
  have hcl:=mW l (X[j]?.getD (0,0))
  have hadd:=Ee a a ha ha m 9 (cR l (X[j]?.getD (0,0))) (X[j]?.getD (0,0)).1 (X[j]?.getD (0,0)).2 qD qD qD
  generalize hnew:iB a a 9 (cR l (X[j]?.getD (0,0))) (X[j]?.getD (0,0)).1 (X[j]?.getD (0,0)).2=new at hn hadd
  repeat' (first|refine Wd ?_|(refine Wc ?_ ?_<;>intro hb<;>try simp at hb)|(refine dC 8 hc qC qC ?_;try simp only[List.take_succ_cons,List.take_zero,List.drop_succ_cons,List.drop_zero])|refine Wn ?_|refine aF ([(100000,24),(50001,40000)]) (hadd) hc qA qA qA qA qA rfl qA qA rfl qE qE qA qA ?_|fail)
  all_goals try(exfalso;omega)
  exact⟨(j+1,m++[new]),⟨qI,hn.symm⟩,qI,aC [7,8,26,27,28] [24,40000] qA qA qE⟩
 ·obtain rfl:j=X.length:=by omega
  have hR:m=R:=by rw[hA,List.take_of_length_le qD]
  rw[←hR]
  repeat' (first|refine Wd ?_|(refine Wc ?_ ?_<;>intro hb<;>try simp at hb)|refine Wn ?_|fail)
  all_goals try(exfalso;omega)
  ·rw[if_pos (show 5000<X.length by omega),if_neg qK]
   (refine Zl hc (hr:=?_))
   simp
  ·rw[if_neg (show¬5000<X.length by omega),if_pos rfl]
   (refine Zl hc (hr:=?_))
   simp
end Go.Proofs.YtdjfgcjlnfnfhaaGreatDoor
