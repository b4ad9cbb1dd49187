/- PAGE: addresses in styles. (WITH run_drawN.) -/
import Derived.Test.YtdjfgcjlnfnfhaaGreatDoorPgAtt
import Derived.Test.YtdjfgcjlnfnfhaaGreatDoorAdA
import Derived.Shelf.Strings.IndexAnyAll
import Derived.Test.YtdjfgcjlnfnfhaaGreatDoorKeyP
set_option linter.unusedSimpArgs false
set_option linter.unusedVariables false
namespace Go.Proofs.YtdjfgcjlnfnfhaaGreatDoor
open Go.Lw
set_option maxRecDepth 100000
set_option maxHeartbeats 1000000
theorem D6 (l:Bs) (i:Nat) (hi:i≤l.length):(att l i).2.2≤l.length∧i≤(att l i).2.2∧((att l i).2.1=true→i<(att l i).2.2∧i≤(att l i).1.fr∧(att l i).1.fr≤(att l i).1.til∧(att l i).1.til≤(att l i).2.2∧((att l i).1.has=false→(att l i).1.fr=(att l i).1.til)):=by
 have h1:=bO aY l i
 have h2:=cI aY l i hi
 unfold att
 generalize skip aY l i=b at h1 h2⊢
 have h3:=x6 cA l b
 have h4:=x7 cA l b h2
 generalize nm cA l b=e at h3 h4⊢
 split
 ·simp;omega
 split
 ·simp;omega
 split
 ·rename_i he
  have hlt:e<l.length:=(List.getElem?_eq_some_iff.1 he).1
  obtain⟨h5,h6,h7⟩:=I2 l (e+1) qD
  split
  ·rename_i ho
   have h8:=h7 ho
   simp;omega
  ·simp;omega
 ·simp;omega
def aH (l:Bs) (i:Nat):List Atr×Nat:=
 if(att l i).2.1=true∧i<(att l i).2.2∧(att l i).2.2≤l.length then((att l i).1::(aH l (att l i).2.2).1,(aH l (att l i).2.2).2)else([],i)
termination_by l.length-i
theorem AR {l:Bs} {i:Nat} (hi:i≤l.length) (h:(att l i).2.1=true):aH l i=((att l i).1::(aH l (att l i).2.2).1,(aH l (att l i).2.2).2):=by
 have:=D6 l i hi
 rw[aH,if_pos ⟨h,(this.2.2 h).1,this.1⟩]
theorem D7 {l:Bs} {i:Nat} (h:(att l i).2.1=false):aH l i=([],i):=by
 rw[aH,if_neg (fun hx=>by rw[h]at hx;exact absurd hx.1 qK)]
theorem D8 (l:Bs) (i:Nat) (hi:i≤l.length):i≤(aH l i).2∧(aH l i).2≤l.length∧(∀a∈(aH l i).1,i≤a.fr∧a.fr≤a.til∧a.til≤(aH l i).2∧(a.has=false→a.fr=a.til))∧(aH l i).1.length+i≤(aH l i).2:=by
 by_cases h:(att l i).2.1=true
 ·have h1:=D6 l i hi
  have h2:=h1.2.2 h
  have h3:=D8 l (att l i).2.2 h1.1
  rw[AR hi h]
  refine⟨qH,qH,fun a ha=>?_,qH⟩
  cases ha with
  |head=>exact⟨h2.2.1,h2.2.2.1,qH,h2.2.2.2.2⟩
  |tail _ ha=>
   have:=h3.2.2.1 a ha
   exact⟨qD,qD,qH,this.2.2.2⟩
 ·rw[D7 q8]
  simp;omega
termination_by l.length-i
decreasing_by omega
abbrev gP (m:List Atr):D:= .sl m.length fun i=>rP (m[i]?.getD .none)
@[simp] theorem Uf (o:Option Atr):(Option.map rP o).getD [.lit (.string (bs [])),.lit (.string (bs [])),.lit (.int .i64 0),.lit (.int .i64 0),.lit (.bool false)]=rP (o.getD .none):=by cases o<;>rfl
abbrev fQ:D:= .lit (.slice none 0 0)
def opn (l:Bs) (i:Nat):Option (Bs×List Atr×Nat)×Nat:=
 if l[i]?=some 60 then
  if nm cN l (i+1)=i+1 then(none,i+1)
  else
   let r:=aH l (nm cN l (i+1))
   let b:=skip aY l r.2
   let c:=if l[b]?=some 47 then b+1 else b
   if l[c]?=some 62 then(some (small ((l.take (nm cN l (i+1))).drop (i+1)),r.1,c+1),c+1)else(none,c)
 else(none,i)
@[simp] def Rl:Option (Bs×List Atr×Nat)→D
  |some r=> .tup [str r.1,gP r.2.1,tru true]
  |none=> .tup [str [],fQ,tru false]
theorem Rm (l:Bs) (i:Nat) (hi:i≤l.length) (hm:l.length≤200000):
 bJ Tryz.prog 323 [.bp 100000 0] (scn l i) (.d (Rl (opn l i).1)) (scn l (opn l i).2):=by
 refine cY Tryz.func323 rfl qC Tryz.ntmps323 _ rfl qE fun C hc=>?_
 have hh:=gF l [60] i hi hm
 rw[iR]at hh
 by_cases h0:l[i]?=some 60
 rotate_left
 ·rw[decide_eq_false h0]at hh
  rw[show opn l i=(none,i)by unfold opn;rw[if_neg h0]]
  repeat' (first|refine Wd ?_|(refine Wc ?_ ?_<;>intro hb<;>try simp at hb)|refine Zw hc (hf:=qaU) (hk:=?_)|refine Zq hc (hf:=qaU) (hk:=?_)|refine Wn ?_|fail)
  all_goals try contradiction
  (refine aE [100000] hc (aR rfl) qA qA qJ ?_)
  (first|(simp;done)|(simp;omega))
 have hlt:i<l.length:=(List.getElem?_eq_some_iff.1 h0).1
 rw[decide_eq_true h0]at hh
 unfold opn
 rw[if_pos h0]
 have h2:=x6 cN l (i+1)
 have h3:=x7 cN l (i+1) qD
 have hn:=D3 cN _ uO l (i+1) qD hm
 generalize nm cN l (i+1)=e at h2 h3 hn⊢
 have hsm:=bP ((l.take e).drop (i+1)) qH
 repeat' (first|refine Wd ?_|(refine Wc ?_ ?_<;>intro hb<;>try simp at hb)|refine Zw hc (hf:=qaU) (hk:=?_)|refine Zq hc (hf:=qaU) (hk:=?_)|refine Wn ?_|refine aF ([(100000,100000)]) (hn) hc qA qA qA qA qA rfl qA qA rfl qE qE qA qA ?_|fail)
 ·rw[if_pos qD]
  (refine aE [100000] hc (aR rfl) qA qA qJ ?_)
  (first|(simp;done)|(simp;omega))
 rw[if_neg qD]
 refine aN (fun x:Nat×List Atr=>⟨[(0,.bp 100000 0),(5,.d (str ((l.take e).drop (i+1)))),(6,.os 40000 x.2.length)],[(100000,.box 274 [.d (str l),.d (int x.1)]),(40000,.own 220 5 (true,rP .none) (x.2.map rP))]⟩) (fun x=>e≤x.1∧x.1≤l.length∧aH l e=(x.2++(aH l x.1).1,(aH l x.1).2)) (fun x=>l.length-x.1) (e,[]) qH (cQ [(6,none,40000,220,rP .none)] [0,5,6] [100000,40000] qA qA qA) ?_
 rintro⟨j,m⟩ ⟨h4,h5,h6⟩
 simp only at h4 h5 h6⊢
 have ha:=D5 l j h5 hm
 have hal:=D6 l j h5
 have hyes:=fun h=>AR (l:=l) h5 h
 have hno:=fun h=>D7 (l:=l) (i:=j) h
 have hml:m.length≤200000:=by
  have hle:=D8 l e h3
  rw[h6]at hle
  simp only[List.length_append]at hle
  omega
 generalize att l j=t at ha hal hyes hno
 obtain⟨t,o,q⟩:=t
 simp only at ha hal hyes hno
 repeat' (first|refine Wd ?_|(refine Wc ?_ ?_<;>intro hb<;>try simp at hb)|refine Wn ?_|refine aF ([(100000,100000)]) (ha) hc qA qA qA qA qA rfl qA qA rfl qE qE qA qA ?_|fail)
 ·have e1:aH l e=(m,j):=by rw[h6,hno hb];simp
  rw[e1]
  simp only
  have h7:=bO aY l j
  have h8:=cI aY l j h5
  have hs:=iQ aY _ cU l j h5 hm
  generalize skip aY l j=b at h7 h8 hs⊢
  have hq:=gF l [47] b h8 hm
  rw[iR]at hq
  (first|refine rB 40000 hc qA qE ?_|refine tN 40000 hc qA qE ?_)
  repeat' (first|refine Wd ?_|(refine Wc ?_ ?_<;>intro hb<;>try simp at hb)|refine Zw hc (hf:=by exact hq) (hk:=?_)|refine Zq hc (hf:=by exact hq) (hk:=?_)|refine Wn ?_|refine aF ([(100000,100000)]) (hs) hc qA qA qA qA qA rfl qA qA rfl qE qE qA qA ?_|fail)
  ·have hbl:b<l.length:=(List.getElem?_eq_some_iff.1 hb).1
   rw[if_pos hb]
   have hg:=gF l [62] (b+1) qD hm
   rw[iR]at hg
   repeat' (first|refine Wd ?_|(refine Wc ?_ ?_<;>intro hb<;>try simp at hb)|refine Zw hc (hf:=Qk) (hk:=?_)|refine Zq hc (hf:=Qk) (hk:=?_)|refine Wn ?_|fail)
   ·rw[if_neg hb]
    (refine aE [100000] hc (aR rfl) qA qA qJ ?_)
    (first|(simp;done)|(simp;omega))
   ·rw[if_pos hb]
    have hbl:b+1<l.length:=(List.getElem?_eq_some_iff.1 hb).1
    repeat' (first|refine Wd ?_|(refine Wc ?_ ?_<;>intro hb<;>try simp at hb)|refine Zw hc (hf:=Qk) (hk:=?_)|refine Zq hc (hf:=Qk) (hk:=?_)|refine Wn ?_|fail)
    (refine aE [100000] hc (aR rfl) qA qA qJ ?_)
    (first|(simp;done)|(simp;omega))
  ·rw[if_neg hb]
   have hg:=gF l [62] b qD hm
   rw[iR]at hg
   repeat' (first|refine Wd ?_|(refine Wc ?_ ?_<;>intro hb<;>try simp at hb)|refine Zw hc (hf:=Qk) (hk:=?_)|refine Zq hc (hf:=Qk) (hk:=?_)|refine Wn ?_|fail)
   ·rw[if_neg hb]
    (refine aE [100000] hc (aR rfl) qA qA qJ ?_)
    (first|(simp;done)|(simp;omega))
   ·rw[if_pos hb]
    have hbl:b<l.length:=(List.getElem?_eq_some_iff.1 hb).1
    repeat' (first|refine Wd ?_|(refine Wc ?_ ?_<;>intro hb<;>try simp at hb)|refine Zw hc (hf:=Qk) (hk:=?_)|refine Zq hc (hf:=Qk) (hk:=?_)|refine Wn ?_|fail)
    (refine aE [100000] hc (aR rfl) qA qA qJ ?_)
    (first|(simp;done)|(simp;omega))
 ·have hal2:=hal.2.2 hb
  refine⟨(q,m++[t]),⟨qH,qH,?_⟩,qH,aC [0,5,6] [100000,40000] qA qA qE⟩
  rw[h6,hyes hb]
  simp
structure Tk where
 kind:Nat
 fr:Nat
 til:Nat
 name:Bs
 aH:List Atr
abbrev Tk.none:Tk:=⟨0,0,0,[],[]⟩
@[simp] def I3 (t:Tk):D:=if t.kind=2 then gP t.aH else fQ
abbrev lB (t:Tk):List D:=[int t.kind,int t.fr,int t.til,str t.name,I3 t]
def tok (l:Bs) (i:Nat):Option Tk:=
 match cmt l i with
 |some j=>some ⟨4,i,j,[],[]⟩
 |none=>match(shut l i).1 with
  |some r=>some ⟨3,i,r.2,r.1,[]⟩
  |none=>match(opn l i).1 with
   |some r=>some ⟨2,i,r.2.2,r.1,r.2.1⟩
   |none=>none
@[simp] def Ti:Option Tk→D
  |some t=> .tup [.agg (lB t),tru true]
  |none=> .tup [.agg (lB .none),tru false]
theorem J7 {l:Bs} {i:Nat} (hi:i≤l.length):(shut l i).2≤l.length∧ ∀r,(shut l i).1=some r→(shut l i).2=r.2∧i+3<r.2:=by
 unfold shut
 split
 ·rename_i h1
  have hl:=uP hi h1
  simp only[List.length_cons,List.length_nil]at hl
  have h2:=x6 cN l (i+2)
  have h3:=x7 cN l (i+2) qD
  generalize nm cN l (i+2)=e at h2 h3⊢
  have h4:=bO aY l e
  have h5:=cI aY l e h3
  generalize skip aY l e=b at h4 h5⊢
  split
  ·rename_i h6
   have h7:b<l.length:=(List.getElem?_eq_some_iff.1 h6.2).1
   refine⟨qH,fun r hr=>?_⟩
   obtain rfl:=Option.some.inj hr
   simp;omega
  ·exact⟨qH,fun r hr=>by cases hr⟩
 ·exact⟨hi,fun r hr=>by cases hr⟩
theorem I4 {l:Bs} {i:Nat} (hi:i≤l.length):(opn l i).2≤l.length∧ ∀r,(opn l i).1=some r→(opn l i).2=r.2.2∧i+2<r.2.2∧(∀a∈r.2.1,i≤a.fr∧a.fr≤a.til∧a.til≤r.2.2∧(a.has=false→a.fr=a.til))∧r.2.1.length≤l.length:=by
 unfold opn
 split
 ·rename_i h1
  have hlt:i<l.length:=(List.getElem?_eq_some_iff.1 h1).1
  have h2:=x6 cN l (i+1)
  have h3:=x7 cN l (i+1) qD
  generalize nm cN l (i+1)=e at h2 h3⊢
  split
  ·exact⟨qH,fun r hr=>by cases hr⟩
  ·obtain⟨h4,h5,h6,h6'⟩:=D8 l e h3
   generalize aH l e=q at h4 h5 h6 h6'⊢
   have h7:=bO aY l q.2
   have h8:=cI aY l q.2 h5
   simp only
   generalize skip aY l q.2=b at h7 h8⊢
   have h9:b≤(if l[b]?=some 47 then b+1 else b)∧(if l[b]?=some 47 then b+1 else b)≤l.length:=by
    split
    ·rename_i h;have:=(List.getElem?_eq_some_iff.1 h).1;omega
    ·omega
   generalize (if l[b]?=some 47 then b+1 else b)=c at h9⊢
   split
   ·rename_i h10
    have h11:c<l.length:=(List.getElem?_eq_some_iff.1 h10).1
    refine⟨qH,fun r hr=>?_⟩
    obtain rfl:=Option.some.inj hr
    refine⟨rfl,qH,fun a ha=>?_,qH⟩
    have:=h6 a ha
    exact⟨qD,qD,qH,this.2.2.2⟩
   ·exact⟨qH,fun r hr=>by cases hr⟩
 ·exact⟨hi,fun r hr=>by cases hr⟩
theorem NV (l:Bs) (i:Nat) (hi:i≤l.length) (hm:l.length≤200000):
 bJ Tryz.prog 265 [.bp 100000 0] (scn l i) (.d (Ti (tok l i))) (scn l (((tok l i).map (·.til)).getD i:Nat)):=by
 refine cY Tryz.func265 rfl qC Tryz.ntmps265 _ rfl qE fun C hc=>?_
 have hc1:=I0 l i hi hm
 have hc2:=NU l i hi hm
 have hc3:=Rm l i hi hm
 have hs2:=J7 (l:=l) hi
 have hs3:=I4 (l:=l) hi
 unfold tok
 generalize cmt l i=r at hc1⊢
 obtain _|j:=r
 ·generalize shut l i=r at hc2 hs2⊢
  obtain⟨_|r,q⟩:=r
  ·generalize opn l i=r at hc3 hs3⊢
   obtain⟨_|r,q⟩:=r
   ·simp only[Option.isSome_none,Option.getD_none,J6,Rl]at hc1 hc2 hc3⊢
    repeat' (first|refine Wd ?_|(refine Wc ?_ ?_<;>intro hb<;>try simp at hb)|refine Wn ?_|refine aF ([(100000,100000)]) (hc1) hc qA qA qA qA qA rfl qA qA rfl qE qE qA qA ?_|refine aF ([(100000,100000)]) (hc2) hc qA qA qA qA qA rfl qA qA rfl qE qE qA qA ?_|refine aF ([(100000,100000)]) (hc3) hc qA qA qA qA qA rfl qA qA rfl qE qE qA qA ?_|fail)
    all_goals try contradiction
    (refine aE [100000] hc (aR rfl) qA qA qJ ?_)
    (first|(simp;done)|(simp;omega))
   ·obtain⟨h1,h2,_⟩:=hs3.2 r rfl
    simp only at h1
    subst h1
    simp only[Option.isSome_none,Option.getD_none,J6,Rl]at hc1 hc2 hc3⊢
    repeat' (first|refine Wd ?_|(refine Wc ?_ ?_<;>intro hb<;>try simp at hb)|refine Wn ?_|refine aF ([(100000,100000)]) (hc1) hc qA qA qA qA qA rfl qA qA rfl qE qE qA qA ?_|refine aF ([(100000,100000)]) (hc2) hc qA qA qA qA qA rfl qA qA rfl qE qE qA qA ?_|refine aF ([(100000,100000)]) (hc3) hc qA qA qA qA qA rfl qA qA rfl qE qE qA qA ?_|fail)
    all_goals try contradiction
    (refine aE [100000] hc (aR rfl) qA qA qJ ?_)
    (first|(simp;done)|(simp;omega))
  ·obtain⟨h1,h2⟩:=hs2.2 r rfl
   simp only at h1
   subst h1
   simp only[Option.isSome_none,Option.getD_none,J6,Rl]at hc1 hc2⊢
   repeat' (first|refine Wd ?_|(refine Wc ?_ ?_<;>intro hb<;>try simp at hb)|refine Wn ?_|refine aF ([(100000,100000)]) (hc1) hc qA qA qA qA qA rfl qA qA rfl qE qE qA qA ?_|refine aF ([(100000,100000)]) (hc2) hc qA qA qA qA qA rfl qA qA rfl qE qE qA qA ?_|fail)
   all_goals try contradiction
   (refine aE [100000] hc (aR rfl) qA qA qJ ?_)
   (first|(simp;done)|(simp;omega))
 ·simp only[Option.isSome_some,Option.getD_some]at hc1⊢
  repeat' (first|refine Wd ?_|(refine Wc ?_ ?_<;>intro hb<;>try simp at hb)|refine Wn ?_|refine aF ([(100000,100000)]) (hc1) hc qA qA qA qA qA rfl qA qA rfl qE qE qA qA ?_|fail)
  all_goals try contradiction
  (refine aE [100000] hc (aR rfl) qA qA qJ ?_)
  (first|(simp;done)|(simp;omega))
def rawName (n:Bs):Bool:=decide (n=[115,99,114,105,112,116])||decide (n=[115,116,121,108,101])||decide (n=[116,105,116,108,101])
def LF (l:Bs) (t:Tk):Bool:=decide (t.kind=2)&&rawName t.name&&decide ((l[t.til-2]?.getD 0).toNat≠47)
theorem NW (l:Bs) (i:Nat) (t:Tk) (ht:t.kind=2→2≤t.til∧t.til≤l.length) (hm:l.length≤200000):aJ Tryz.prog 266 [Rk l i,.agg (lB t)] (tru (LF l t)):=by
 refine aW Tryz.func266 rfl qC Tryz.ntmps266 _ rfl qE fun C hc=>?_
 obtain⟨k,f,e,n,m⟩:=t
 by_cases hk:k=2
 ·subst hk
  obtain⟨h1,h2⟩:=ht rfl
  simp only at h1 h2
  simp only[lB,I3,if_true]
  repeat' (first|refine Wd ?_|(refine Wc ?_ ?_<;>intro hb<;>try simp at hb)|refine Wn ?_|fail)
  (refine Zl hc (hr:=?_))
  refine bT ?_
  rw[Bool.eq_iff_iff];simp[LF,rawName];omega
 ·simp only[lB,I3,hk,if_false]
  repeat' (first|refine Wd ?_|(refine Wc ?_ ?_<;>intro hb<;>try simp at hb)|refine Wn ?_|fail)
  (refine Zl hc (hr:=?_))
  refine bT ?_
  rw[Bool.eq_iff_iff];simp[LF,rawName,hk];omega
def CE (l:Bs) (i:Nat) (n:Bs):Bool:=[60,47].isPrefixOf (l.drop i)&&decide (i+2+n.length<l.length)&&decide (small ((l.take (i+2+n.length)).drop (i+2))=n)&&(decide ((l[i+2+n.length]?.getD 0).toNat=62)||aY (l[i+2+n.length]?.getD 0))
def jG (l:Bs) (i:Nat) (n:Bs):Nat:=if i<l.length then(if CE l i n=true then i else jG l (i+1) n)else l.length
termination_by l.length-i
theorem rK (l:Bs) (i:Nat) (n:Bs) (hi:i≤l.length):i≤jG l i n∧jG l i n≤l.length:=by
 rw[jG]
 split
 ·split
  ·omega
  ·have:=rK l (i+1) n qD
   omega
 ·omega
termination_by l.length-i
theorem LG (l n:Bs) (i:Nat) (hi:i≤l.length) (hm:l.length≤200000) (hn:n.length≤200000):aJ Tryz.prog 267 [Rk l i,str n] (int (jG l i n)):=by
 refine aW Tryz.func267 rfl qC Tryz.ntmps267 _ rfl qE fun C hc=>?_
 repeat' (first|refine Wd ?_|(refine Wc ?_ ?_<;>intro hb<;>try simp at hb)|fail)
 refine aN (fun j:Nat=>⟨[(0,.d (Rk l i)),(1,.d (str n)),(5,.d (int j))],[]⟩) (fun j=>i≤j∧j≤l.length∧jG l i n=jG l j n) (fun j=>l.length-j) i qH (aG [0,1,5] [] qA qA) ?_
 rintro j ⟨h1,h2,h3⟩
 have h4:jG l j n=if j<l.length then(if CE l j n=true then j else jG l (j+1) n)else l.length:=by rw[jG]
 have hp:=fun h=>uP (p:=[60,47]) (l:=l) (i:=j) h2 h
 simp only[List.length_cons,List.length_nil]at hp
 have hsm:=fun h:(l.take (j+2+n.length)).length≤200000=>bP ((l.take (j+2+n.length)).drop (j+2)) (by simp at h⊢;omega)
 repeat' (first|refine Wd ?_|(refine Wc ?_ ?_<;>intro hb<;>try simp at hb)|refine Zw hc (hf:=Q1) (hk:=?_)|refine Zq hc (hf:=Q1) (hk:=?_)|refine Wn ?_|fail)
 ·have eT:((j:Int)+2+(n.length:Int)).toNat=j+2+n.length:=by omega
  rw[eT]at hb
  have hr:CE l j n=true:=by
   simp only[CE,Bool.and_eq_true,Bool.or_eq_true,decide_eq_true_eq,List.isPrefixOf_iff_prefix]
   exact⟨⟨⟨hb.1.1.1,qD⟩,hb.1.2⟩,hb.2.imp (fun h=>by omega) id⟩
  rw[h3,h4,if_pos qN,if_pos hr]
  (refine Zl hc (hr:=?_))
  simp
 ·have eT:((j:Int)+2+(n.length:Int)).toNat=j+2+n.length:=by omega
  rw[eT]at hb
  have hr: ¬CE l j n=true:=by
   intro hr
   simp only[CE,Bool.and_eq_true,Bool.or_eq_true,decide_eq_true_eq,List.isPrefixOf_iff_prefix]at hr
   have:=hb hr.1.1.1 qD hr.1.2
   rcases hr.2 with h|h
   ·omega
   ·rw[this.2]at h;cases h
  refine⟨j+1,⟨qD,qD,?_⟩,qD,aC [0,1,5] [] qA qA qE⟩
  rw[h3,h4,if_pos qN,if_neg hr]
 ·rw[h3,h4,if_neg qD]
  (refine Zl hc (hr:=?_))
  simp
@[simp] theorem VP {α β:Type} (f:α→β) (m x:List α):List.take (m.length+x.length) (List.map f m++List.map f x)=List.map f m++List.map f x:=List.take_of_length_le qE
def txt (a b:Nat):List Tk:=if a<b then[⟨1,a,b,[],[]⟩]else[]
abbrev dfT:List D:=[.lit (.int .i64 0),.lit (.int .i64 0),.lit (.int .i64 0),.lit (.string (bs [])),.lit (.slice none 0 0)]
abbrev Rn (x y:Nat) (m:List Tk):List (Nat×O):=[(x,.box 128 [.os y m.length]),(y,.own 217 5 (true,dfT) (m.map lB))]
theorem wQ (a b:Nat) (m:List Tk) (hm:m.length≤300000) (hb:b≤200000) (ha:a≤200000):
 bJ Tryz.prog 264 [.d (int a),.d (int b),.bp 100000 0] (Rn 100000 50001 m) (.d (.tup [])) (Rn 100000 50001 (m++txt a b)):=by
 refine cY Tryz.func264 rfl qC Tryz.ntmps264 _ rfl qE fun C hc=>?_
 unfold txt
 repeat' (first|refine Wd ?_|(refine Wc ?_ ?_<;>intro hb<;>try simp at hb)|refine Wn ?_|fail)
 ·rw[if_pos hb]
  (refine o7 [100000,50001] hc (aR rfl) qA qA qJ ?_)
  simp
 ·rw[if_neg qD]
  (refine o7 [100000,50001] hc (aR rfl) qA qA qJ ?_)
  simp
theorem LH {l:Bs} {i:Nat} {r:Bs×Nat} (h:(shut l i).1=some r):r.1.length≤l.length:=by
 unfold shut at h
 split at h
 ·split at h
  ·obtain rfl:=Option.some.inj h
   simp;omega
  ·cases h
 ·cases h
theorem NX {l:Bs} {i:Nat} {r:Bs×List Atr×Nat} (h:(opn l i).1=some r):r.1.length≤l.length:=by
 unfold opn at h
 split at h
 ·split at h
  ·cases h
  ·simp only at h
   split at h
   ·split at h
    ·obtain rfl:=Option.some.inj h
     simp;omega
    ·cases h
   ·split at h
    ·obtain rfl:=Option.some.inj h
     simp;omega
    ·cases h
 ·cases h
theorem pS {l:Bs} {i:Nat} {t:Tk} (hi:i≤l.length) (h:tok l i=some t):i+1≤t.til∧t.til≤l.length∧t.fr=i∧(t.kind=2→2≤t.til)∧t.name.length≤l.length∧(∀a∈t.aH,i≤a.fr∧a.fr≤a.til∧a.til≤t.til∧(a.has=false→a.fr=a.til)):=by
 unfold tok at h
 have h1:=fun j=>Th (l:=l) (i:=i) (j:=j) hi
 have h2:=J7 (l:=l) hi
 have h3:=I4 (l:=l) hi
 split at h
 ·rename_i j hj
  obtain rfl:=Option.some.inj h
  have:=h1 j hj
  simp;omega
 ·split at h
  ·rename_i r hr
   obtain rfl:=Option.some.inj h
   have h4:=h2.2 r hr
   have h5:=LH hr
   refine⟨qH,qH,rfl,qE,h5,qE⟩
  ·split at h
   ·rename_i r hr
    obtain rfl:=Option.some.inj h
    have h4:=h3.2 r hr
    have h5:=NX hr
    exact⟨qH,qH,rfl,qH,h5,h4.2.2.1⟩
   ·cases h
def parts (l:Bs) (fr i:Nat):List Tk:=
 if h:i<l.length then
  match ht:tok l i with
  |none=>parts l fr (i+1)
  |some t=>
   if LF l t=true then txt fr i++t::(txt t.til (jG l t.til t.name)++parts l (jG l t.til t.name) (jG l t.til t.name))
   else txt fr i++t::parts l t.til t.til
 else txt fr l.length
termination_by l.length-i
decreasing_by
 ·omega
 ·have h1:=pS qD ht
  have h2:=rK l t.til t.name h1.2.1
  omega
 ·have h1:=pS qD ht
  omega
def run (l:Bs) (fr i:Nat) (m:List Tk):List Tk:=
 if h:i<l.length∧m.length≤20000 then
  match ht:tok l i with
  |none=>run l fr (i+1) m
  |some t=>
   if LF l t=true then run l (jG l t.til t.name) (jG l t.til t.name) (m++txt fr i++t::txt t.til (jG l t.til t.name))
   else run l t.til t.til (m++txt fr i++[t])
 else m++txt fr l.length
termination_by l.length-i
decreasing_by
 ·omega
 ·have h1:=pS qD ht
  have h2:=rK l t.til t.name h1.2.1
  omega
 ·have h1:=pS qD ht
  omega
theorem uR {l:Bs} {fr i:Nat} {m:List Tk} (h:i<l.length) (hm:m.length≤20000) (ht:tok l i=none):run l fr i m=run l fr (i+1) m:=by
 rw[run,dif_pos ⟨h,hm⟩]
 split
 ·rfl
 ·rename_i t h';rw[ht]at h';cases h'
theorem AU {l:Bs} {fr i:Nat} {m:List Tk} {t:Tk} (h:i<l.length) (hm:m.length≤20000) (ht:tok l i=some t):run l fr i m=if LF l t=true then run l (jG l t.til t.name) (jG l t.til t.name) (m++txt fr i++t::txt t.til (jG l t.til t.name))else run l t.til t.til (m++txt fr i++[t]):=by
 rw[run,dif_pos ⟨h,hm⟩]
 split
 ·rename_i h';rw[ht]at h';cases h'
 ·rename_i t' h'
  rw[ht]at h'
  cases h'
  rfl
theorem uS {l:Bs} {fr i:Nat} {m:List Tk} (h: ¬(i<l.length∧m.length≤20000)):run l fr i m=m++txt fr l.length:=by rw[run,dif_neg h]
theorem Tj {l:Bs} {i:Nat} (h:l[i]?≠some 60):tok l i=none:=by
 have h0: ∀p:Bs,(60::p).isPrefixOf (l.drop i)=false:=by
  intro p
  by_cases hi:i<l.length
  ·rw[List.drop_eq_getElem_cons hi]
   rw[List.getElem?_eq_getElem hi]at h
   have:((60:UInt8)==l[i])=false:=by
    rw[beq_eq_false_iff_ne]
    exact fun e=>h (by rw[e])
   simp[List.isPrefixOf,this]
  ·rw[List.drop_of_length_le qD]
   rfl
 have e1:cmt l i=none:=by unfold cmt;rw[h0];simp
 have e2:(shut l i).1=none:=by unfold shut;rw[h0];simp
 have e3:(opn l i).1=none:=by unfold opn;rw[if_neg h]
 unfold tok
 rw[e1,e2,e3]
theorem J8 (a b:Nat):(txt a b).length≤1:=by unfold txt;split<;>simp
abbrev J9 (m:List Tk):D:= .sl m.length fun i=>lB (m[i]?.getD .none)
@[simp] theorem LI (o:Option Tk):(Option.map lB o).getD dfT=lB (o.getD .none):=by cases o<;>rfl
theorem LJ (l:Bs) (hm:l.length≤200000):aJ Tryz.prog 176 [str l] (.tup [J9 (run l 0 0 []),tru (decide ((run l 0 0 []).length≤20000))]):=by
 refine aW Tryz.func176 rfl qC Tryz.ntmps176 _ rfl qE fun C hc=>?_
 repeat' (first|refine Wd ?_|(refine Wc ?_ ?_<;>intro hb<;>try simp at hb)|fail)
 refine aN (fun x:Nat×Nat×List Tk=>⟨[(0,.d (str l)),(4,.bp 14 0),(5,.bp 5 0),(6,.eR (.func 264) [.bp 5 0]),(7,.d (int x.2.1))],[(14,.box 274 [.d (str l),.d (int x.1)]),(5,.box 128 [.os 40000 x.2.2.length]),(40000,.own 217 5 (true,dfT) (x.2.2.map lB))]⟩)
  (fun x=>x.1≤l.length∧x.2.1≤l.length∧x.2.2.length≤20003∧run l 0 0 []=run l x.2.1 x.1 x.2.2) (fun x=>l.length-x.1) (0,0,[]) qE (cQ [(5,some 0,40000,217,dfT)] [0,4,5,6,7] [14,5,40000] qA qA qA) ?_
 rintro⟨i,fr,m⟩ ⟨h1,h2,h3,h4⟩
 simp only at h1 h2 h3 h4⊢
 repeat' (first|refine Wd ?_|(refine Wc ?_ ?_<;>intro hb<;>try simp at hb)|fail)
 ·have ht:tok l i=none:=Tj (by
   intro e
   rw[e]at hb
   simp at hb)
  have hx:i<l.length:=by omega
  exact⟨(i+1,fr,m),⟨qH,h2,h3,by rw[h4,uR hx qD ht]⟩,qH,aC [0,4,5,6,7] [14,5,40000] qA qA qE⟩
 ·have htk:=NV l i h1 hm
  have hle:=fun t=>pS (l:=l) (i:=i) (t:=t) h1
  have hno:=fun h2 h3 h=>uR (l:=l) (fr:=fr) (i:=i) (m:=m) h2 h3 h
  have hso:=fun t h2 h3 h=>AU (l:=l) (fr:=fr) (i:=i) (m:=m) (t:=t) h2 h3 h
  generalize tok l i=t at htk hle hno hso
  obtain _|t:=t
  ·simp only[Ti,Option.map_none,Option.getD_none]at htk
   repeat' (first|refine Wd ?_|(refine Wc ?_ ?_<;>intro hb<;>try simp at hb)|refine Wn ?_|refine aF ([(100000,14)]) (htk) hc qA qA qA qA qA rfl qA qA rfl qE qE qA qA ?_|fail)
   all_goals try contradiction
   exact⟨(i+1,fr,m),⟨qH,h2,h3,by rw[h4,hno qD qD rfl]⟩,qH,aC [0,4,5,6,7] [14,5,40000] qA qA qE⟩
  ·obtain⟨h5,h6,h7,h8,h9,h10⟩:=hle t rfl
   have hr:=hso t qD qD rfl
   have htl:=J8 fr i
   have hx:=wQ fr i m qD qD qD
   simp only[Ti,Option.map_some,Option.getD_some]at htk
   have hraw:=NW l t.til t (fun h=>⟨h8 h,h6⟩) hm
   have hend:=LG l t.name t.til h6 hm qD
   have hre:=rK l t.til t.name h6
   have hx2:=wQ t.til (jG l t.til t.name) (m++txt fr i++[t]) qH qD qD
   have htl2:=J8 t.til (jG l t.til t.name)
   have hk:I3 t=gP t.aH∨I3 t=fQ:=by unfold I3;split<;>simp
   rcases hk with ha|ha
   ·have ha':(if t.kind=2 then gP t.aH else fQ)=_:=ha
    simp only[lB,ha]at htk hraw
    simp only[Rn,List.map_append,List.map_cons,List.map_nil,List.length_append,List.length_cons,List.length_nil,lB,ha]at hx2
    repeat' (first|refine Wd ?_|(refine Wc ?_ ?_<;>intro hb<;>try simp at hb)|refine Zw hc (hf:=Q0) (hk:=?_)|refine Zq hc (hf:=Q0) (hk:=?_)|refine Wn ?_|refine aF ([(100000,14)]) (htk) hc qA qA qA qA qA rfl qA qA rfl qE qE qA qA ?_|refine aF ([(100000,5),(50001,40000)]) (hx) hc qA qA qA qA qA rfl qA qA rfl qE qE qA qA ?_|refine aF ([(100000,5),(50001,40000)]) (hx2) hc qA qA qA qA qA rfl qA qA rfl qE qE qA qA ?_|fail)
    ·refine⟨(jG l t.til t.name,jG l t.til t.name,m++txt fr i++t::txt t.til (jG l t.til t.name)),⟨qH,qH,qH,by rw[h4,hr,if_pos hb]⟩,qH,aC [0,4,5,6,7] [14,5,40000] qA qA qT⟩
    ·refine⟨(t.til,t.til,m++txt fr i++[t]),⟨qH,qH,qH,by rw[h4,hr,if_neg Qm]⟩,qH,aC [0,4,5,6,7] [14,5,40000] qA qA qT⟩
   ·have ha':(if t.kind=2 then gP t.aH else fQ)=_:=ha
    simp only[lB,ha]at htk hraw
    simp only[Rn,List.map_append,List.map_cons,List.map_nil,List.length_append,List.length_cons,List.length_nil,lB,ha]at hx2
    repeat' (first|refine Wd ?_|(refine Wc ?_ ?_<;>intro hb<;>try simp at hb)|refine Zw hc (hf:=Q0) (hk:=?_)|refine Zq hc (hf:=Q0) (hk:=?_)|refine Wn ?_|refine aF ([(100000,14)]) (htk) hc qA qA qA qA qA rfl qA qA rfl qE qE qA qA ?_|refine aF ([(100000,5),(50001,40000)]) (hx) hc qA qA qA qA qA rfl qA qA rfl qE qE qA qA ?_|refine aF ([(100000,5),(50001,40000)]) (hx2) hc qA qA qA qA qA rfl qA qA rfl qE qE qA qA ?_|fail)
    ·refine⟨(jG l t.til t.name,jG l t.til t.name,m++txt fr i++t::txt t.til (jG l t.til t.name)),⟨qH,qH,qH,by rw[h4,hr,if_pos hb]⟩,qH,aC [0,4,5,6,7] [14,5,40000] qA qA qT⟩
    ·refine⟨(t.til,t.til,m++txt fr i++[t]),⟨qH,qH,qH,by rw[h4,hr,if_neg Qm]⟩,qH,aC [0,4,5,6,7] [14,5,40000] qA qA qT⟩
 ·rw[h4,uS qD]
  have hx:=wQ fr l.length m qD qD qD
  repeat' (first|refine Wd ?_|(refine Wc ?_ ?_<;>intro hb<;>try simp at hb)|refine Wn ?_|refine aF ([(100000,5),(50001,40000)]) (hx) hc qA qA qA qA qA rfl qA qA rfl qE qE qA qA ?_|fail)
  (refine Zl hc (hr:=?_))
  have e:decide ((m.length:Int)+((txt fr l.length).length:Int)≤20000)=decide ((m++txt fr l.length).length≤20000):=by
   rw[decide_eq_decide,List.length_append];omega
  simp only[←List.map_append,List.getElem?_map,LI,e]
  simp
end Go.Proofs.YtdjfgcjlnfnfhaaGreatDoor
namespace Go.Proofs.YtdjfgcjlnfnfhaaGreatDoor
open Go.Lw Go.RowKit
set_option maxRecDepth 100000
set_option maxHeartbeats 1000000
theorem CF (l:Bs) (i:Nat) (h:i<l.length) (ha:(l[i]?.getD 0).toNat<128):Utf8.decode (bs l) i=((l[i]?.getD 0).toNat,1):=by
 have e:(bs l)[i]' q8=l[i]?.getD 0:=by simp[h];rfl
 rw[decode_ascii (bs l) i q8 (by rw[e];exact ha),e]
theorem uT (r:Int):aJ Tryz.prog 292 [.lit (.int .i32 r)] (tru (Lib.validRune r)):=
 dL [.int .i32 r] qC fun w _=>Tryz.utf8_ValidRune r w
def Xl (l:Bs):Prop:= ∀i,i<l.length→(l[i]?.getD 0).toNat<128
theorem AV {l:Bs} (h: ∀b∈l,b.toNat<128) {c:UInt8} (hc:128≤c.toNat):Lib.indexByte l c= -1:=by
 induction l with
 |nil=>rfl
 |cons b l ih=>
  have hb:=h b qE
  rw[Lib.indexByte,if_neg (by intro e;simp at e;subst e;omega),ih (fun b hb=>h b (by simp[hb]))]
  rfl
theorem Ha (r:Int) (h:128≤r): ∃e:Bs,Utf8.encode r=bs e∧2≤e.length∧e.length≤4∧128≤(e[e.length-1]?.getD 0).toNat:=by
 refine⟨(Utf8.encode r).data.toList,rfl,?_⟩
 have key: ∀c:Nat,(128+c%64)%256=128+c%64:=fun c=>by omega
 unfold Utf8.encode
 simp only
 generalize hcc:(if Utf8.valid r=true then r.toNat else Utf8.runeError)=c
 have hc:128≤c:=by
  subst hcc
  split
  ·omega
  ·decide
 rw[if_neg qD]
 repeat' split
 all_goals simp[UInt8.toNat_ofNat']
 all_goals omega
theorem NY {l:Bs} (ha: ∀b∈l,b.toNat<128) (i:Nat):(l[i]?.getD (0:UInt8)).toNat<128:=by
 by_cases hi:i<l.length
 ·have:=ha l[i] (List.getElem_mem hi);simpa[hi]using this
 ·simp[List.getElem?_eq_none (show l.length≤i by omega)]
theorem AW (l:Bs) (r:Int) (hl:l.length≤9223372036854775807) (ha: ∀b∈l,b.toNat<128) (h:128≤r):aJ Tryz.prog 209 [str l,.lit (.int .i32 r)] (int (-1)):=by
 obtain⟨e,he,h2,h4,hlast⟩:=Ha r h
 have hai:=NY ha
 refine aW Tryz.func209 rfl qC Tryz.ntmps209 _ rfl qE fun C hc=>?_
 repeat' (first|refine Wd ?_|(refine Wc ?_ ?_<;>intro hb<;>try simp at hb)|refine Zw hc (hf:=by exact uT _) (hk:=?_)|refine Zq hc (hf:=by exact uT _) (hk:=?_)|refine Wo ?_|fail)
 ·exfalso;omega
 ·refine aN (fun i:Nat=>⟨[(0,.d (str l)),(175,.bp 175 0)],[(175,.raw (.stringIter (bs l) i))]⟩) (fun _=>True) (fun i=>l.length-i) 0 trivial (aG [0,175] [175] qA qA) ?_
  intro i _
  have hi:=hai i
  have hdec:=fun h=>CF l i h hi
  repeat' (first|refine Wd ?_|(refine Wc ?_ ?_<;>intro hb<;>try simp at hb)|refine Wo ?_|fail)
  (refine E3 hc qA qA qA rfl qE qA qA (fun hb=>?_) (fun hb=>?_)<;>(try simp at hb))
  ·rw[hdec hb]
   repeat' (first|refine Wd ?_|(refine Wc ?_ ?_<;>intro hb<;>try simp at hb)|refine Wo ?_|fail)
   ·exfalso;omega
   ·exact⟨i+1,trivial,qD,aC [0,175] [175] qA qA qE⟩
  ·repeat' (first|refine Wd ?_|(refine Wc ?_ ?_<;>intro hb<;>try simp at hb)|refine Wo ?_|fail)
   (refine Zl hc (hr:=?_))
   simp
 ·(refine Zl hc (hr:=?_))
  simp
 ·simp only[he]
  repeat' (first|refine Wd ?_|(refine Wc ?_ ?_<;>intro hb<;>try simp at hb)|fail)
  refine aN (fun _:Unit=>⟨[(0,.d (str l)),(7,.d (str e)),(8,.d (int ((e.length:Int)-1))),(9,.d (int ((e.length:Int)-1))),(10,.d (int 0))],[]⟩) (fun _=>True) (fun _=>0) () trivial (aG [0,7,8,9,10] [] qA qA) ?_
  rintro⟨⟩ _
  have h5:=hai (e.length-1)
  have hib:Lib.indexByte (l.drop e.length) (e[e.length-1]?.getD 0)= -1:=AV (fun b hb=>ha b (List.mem_of_mem_drop hb)) hlast
  have hIB:=bZ (l.drop e.length) (e[e.length-1]?.getD 0)
  rw[hib]at hIB
  have e1:e.length-1+1=e.length:=by omega
  repeat' (first|refine Wd ?_|(refine Wc ?_ ?_<;>intro hb<;>try simp at hb)|refine Zw hc (hf:=by exact hIB) (hk:=?_)|refine Zq hc (hf:=by exact hIB) (hk:=?_)|refine Wo ?_|fail)
  ·(refine Zl hc (hr:=?_))
   simp
  ·exfalso;omega
  ·(refine Zl hc (hr:=?_))
   simp
theorem BN {s chars:Bs} (h: ∀b∈s,b∉chars):Lib.indexAny s chars= -1:=by
 induction s with
 |nil=>rfl
 |cons b s ih=>
  have hb:chars.contains b=false:=by simpa using h b qE
  rw[Lib.indexAny,hb,ih (fun b hb=>h b (by simp[hb]))]
  rfl
theorem BO (l:Bs) (c:UInt8) (hc:c.toNat<128):aJ Tryz.prog 209 [str l,.lit (.int .i32 (c.toNat:Int))] (int (Lib.indexByte l c)):=
 dL [.string (bs l),.int .i32 (c.toNat:Int)] qC fun w _=>by
  have h:=Tryz.strings_IndexRune_ascii (bs l) (c.toNat:Int) w qD qD
  simpa using h
theorem NZ (n:Int):aJ Tryz.prog 210 [int n] (tru (decide (8<n))):=
 dL [.int .i64 n] qC fun w _=>Tryz.strings_shouldUseASCIISet n w
theorem AX {l:Bs} {c:UInt8} (h:c∉l):Lib.indexByte l c= -1:=by
 have:=Lib.contains_iff_indexByte l c
 have h2:l.contains c=false:=by simpa using h
 rw[h2]at this
 have h3:=Lib.indexByte_ge l c
 have h4: ¬0≤Lib.indexByte l c:=by simpa using this.symm
 omega
theorem N0 (s:Bs) (i:Nat) (h:i<s.length) (ha:128≤(s[i]?.getD (0:UInt8)).toNat):128≤(Utf8.decode (bs s) i).1∧1≤(Utf8.decode (bs s) i).2:=by
 have e:(bs s)[i]' q8=s[i]?.getD 0:=by simp[h];rfl
 exact decode_high (bs s) i q8 (by rw[e];exact ha)
theorem AY (s chars:Bs) (h8:s.length≤8) (h2:2≤chars.length) (hl:chars.length≤9223372036854775807) (ha: ∀b∈chars,b.toNat<128) (h: ∀b∈s,b∉chars):aJ Tryz.prog 134 [str s,str chars] (int (-1)):=by
 refine aW Tryz.func134 rfl qC Tryz.ntmps134 _ rfl qE fun C hc=>?_
 have hne:chars≠[]:=by intro e;subst e;simp at h2
 repeat' (first|refine Wd ?_|(refine Wc ?_ ?_<;>intro hb<;>try simp at hb)|refine Zw hc (hf:=by exact NZ _) (hk:=?_)|refine Zq hc (hf:=by exact NZ _) (hk:=?_)|refine Wo ?_|fail)
 all_goals try(exfalso;first|contradiction|omega)
 refine aN (fun i:Nat=>⟨[(0,.d (str s)),(1,.d (str chars)),(45,.bp 45 0)],[(45,.raw (.stringIter (bs s) i))]⟩) (fun _=>True) (fun i=>s.length-i) 0 trivial (aG [0,1,45] [45] qA qA) ?_
 intro i _
 have hat:i<s.length→(s[i]?.getD (0:UInt8))∈s:=fun hi=>by simp[hi]
 repeat' (first|refine Wd ?_|(refine Wc ?_ ?_<;>intro hb<;>try simp at hb)|refine Wo ?_|fail)
 (refine E3 hc qA qA qA rfl qE qA qA (fun hb=>?_) (fun hb=>?_)<;>(try simp at hb))
 ·by_cases hhi:(s[i]?.getD (0:UInt8)).toNat<128
  ·have hR:=BO chars (s[i]?.getD 0) hhi
   rw[AX (h _ (hat hb))]at hR
   rw[CF s i hb hhi]
   repeat' (first|refine Wd ?_|(refine Wc ?_ ?_<;>intro hb<;>try simp at hb)|refine Zw hc (hf:=qaV) (hk:=?_)|refine Zq hc (hf:=qaV) (hk:=?_)|refine Wo ?_|fail)
   exact⟨i+1,trivial,qD,aC [0,1,45] [45] qA qA qE⟩
  ·have hd:=N0 s i hb qD
   have hR:=AW chars ((Utf8.decode (bs s) i).1:Int) hl ha qD
   generalize Utf8.decode (bs s) i=q at hd hR⊢
   repeat' (first|refine Wd ?_|(refine Wc ?_ ?_<;>intro hb<;>try simp at hb)|refine Zw hc (hf:=qaV) (hk:=?_)|refine Zq hc (hf:=qaV) (hk:=?_)|refine Wo ?_|fail)
   exact⟨i+q.2,trivial,qD,aC [0,1,45] [45] qA qA qE⟩
 ·repeat' (first|refine Wd ?_|(refine Wc ?_ ?_<;>intro hb<;>try simp at hb)|refine Wo ?_|fail)
  (refine Zl hc (hr:=?_))
  simp
theorem indexAny_none (s chars:Bs) (hs:s.length<4294967281) (h2:2≤chars.length) (hl:chars.length<4294967281) (ha: ∀b∈chars,b.toNat<128) (h: ∀b∈s,b∉chars):aJ Tryz.prog 134 [str s,str chars] (int (-1)):=by
 by_cases h8:s.length≤8
 ·exact AY s chars h8 h2 qD ha h
 ·refine iA [.string (bs s),.string (bs chars)] qC fun w _=>?_
  refine(Tryz.strings_IndexAny_long (zero_of_info (n:=256) qC).1 (bs s) (bs chars) w h2 qH hs hl (fun j b hb=>ha b (List.mem_of_getElem? hb))).mono ?_
  rintro e w' ⟨rfl,rfl⟩
  refine⟨by rw[show Lib.indexAny (bs s).data.toList (bs chars).data.toList= -1 from BN h],?_⟩
  exact((Below.refl _ w).alloc (Nat.le_refl _) _).alloc qE _
end Go.Proofs.YtdjfgcjlnfnfhaaGreatDoor
namespace Go.Proofs.YtdjfgcjlnfnfhaaGreatDoor
open Go.Lw Go.RowKit Go.ChangeShapes Go.WideShapes Go.ChangeAt
set_option maxRecDepth 100000
set_option maxHeartbeats 400000
set_option maxHeartbeats 1000000
abbrev LK (t:Tk):List D:=[int t.kind,int t.fr,int t.til,str t.name,gP t.aH]
abbrev dX (m:List Tk):D:= .sl m.length fun i=>LK (m[i]?.getD .none)
abbrev byS (l:Bs):D:= .sl l.length fun i=>aZ (l[i]?.getD 0)
def Plain (m:List Tk):Prop:= ∀t∈m,t.kind≠2→t.aH=[]
theorem N1 {m:List Tk} (hm:Plain m):cJ (J9 m) (dX m):=by
 refine nJ (fun i _=>rfl) fun i k d hi hd=>?_
 have hp:=hm (m[i]?.getD .none) (by rw[List.getElem?_eq_getElem hi];simp)
 generalize m[i]?.getD .none=t at hd hp⊢
 match k,hd with
 |0,hd|1,hd|2,hd|3,hd=>cases hd;exact⟨_,rfl,cJ.refl _⟩
 |4,hd=>
  cases hd
  refine⟨_,rfl,?_⟩
  unfold I3
  split
  ·exact cJ.refl _
  ·rename_i hk
   rw[hp hk]
   exact bY _
@[simp] theorem Sk (l:Bs):(List.range l.length).map (fun i=>l[i]?.getD 0)=l:=by
  apply List.ext_getElem?
  intro i
  by_cases h:i<l.length
  ·simp[h]
  ·simp[h]
theorem I5 (l:Bs) (hm:l.length≤maxLen):aJ Tryz.prog 107 [byS l] (if l.length≤200000∧(run l 0 0 []).length≤20000 then .tup [J9 (run l 0 0 []),int 0]else .tup [fQ,int 2]):=by
 refine aW Tryz.func107 rfl qC Tryz.ntmps107 _ rfl qE fun C hc=>?_
 unfold maxLen at hm
 by_cases h1:l.length≤200000
 ·have ht:=LJ l h1
  repeat' (first|refine Wd ?_|(refine Wc ?_ ?_<;>intro hb<;>try simp at hb)|refine Zw hc (hf:=by exact ht) (hk:=?_)|refine Zq hc (hf:=by exact ht) (hk:=?_)|refine Wn ?_|fail)
  ·exfalso;omega
  ·rw[if_neg qD]
   (refine Zl hc (hr:=?_))
   simp
  ·rw[if_pos qD]
   (refine Zl hc (hr:=?_))
   simp
 ·rw[if_neg (fun h=>h1 h.1)]
  repeat' (first|refine Wd ?_|(refine Wc ?_ ?_<;>intro hb<;>try simp at hb)|fail)
  ·(refine Zl hc (hr:=?_))
   simp
  ·exfalso;omega
def Fit (t:Tk):Prop:= ∀x∈t.aH,t.fr≤x.fr∧x.fr≤x.til∧x.til≤t.til∧(x.has=false→x.fr=x.til)
def sU:List Tk→Nat→Nat→Prop
 |[],a,b=>a=b
 |t::r,a,b=>t.fr=a∧a<t.til∧Fit t∧((t.kind≠2→t.aH=[])∧t.aH.length≤200000)∧sU r t.til b
theorem sU.append {m r:List Tk} {a b c:Nat} (h:sU m a b) (h2:sU r b c):sU (m++r) a c:=by
 induction m generalizing a with
 |nil=>cases h;exact h2
 |cons t m ih=>exact⟨h.1,h.2.1,h.2.2.1,h.2.2.2.1,ih h.2.2.2.2⟩
theorem uU {a b:Nat} (h:a≤b):sU (txt a b) a b:=by
 unfold txt
 split
 ·exact⟨rfl,qN,(fun x hx=>by cases hx),⟨fun _=>rfl,qE⟩,rfl⟩
 ·show a=b;omega
theorem LL {l:Bs} {i:Nat} {t:Tk} (h:tok l i=some t):t.kind≠2→t.aH=[]:=by
 unfold tok at h
 split at h
 ·cases h;exact fun _=>rfl
 ·split at h
  ·cases h;exact fun _=>rfl
  ·split at h
   ·cases h;exact fun hk=>absurd rfl hk
   ·cases h
theorem N2 {l:Bs} {i:Nat} {t:Tk} (hi:i≤l.length) (h:tok l i=some t):t.aH.length≤l.length:=by
 unfold tok at h
 have h3:=I4 (l:=l) hi
 split at h
 ·cases h;simp
 ·split at h
  ·cases h;simp
  ·split at h
   ·rename_i r q hr
    cases h
    rw[hr]at h3
    exact(h3.2 _ rfl).2.2.2
   ·cases h
theorem AZ (l:Bs) (hll:l.length≤200000): ∀(n fr i:Nat) (m:List Tk),l.length-i≤n→fr≤i→i≤l.length→sU m 0 fr→(run l fr i m).length≤20000→sU (run l fr i m) 0 l.length:=by
 intro n
 induction n with
 |zero=>
  intro fr i m h1 h2 h3 h4 h5
  rw[uS qD]
  exact h4.append (uU qD)
 |succ n ih=>
  intro fr i m h1 h2 h3 h4 h5
  by_cases hc:i<l.length∧m.length≤20000
  ·cases ht:tok l i with
   |none=>
    rw[uR hc.1 hc.2 ht]at h5⊢
    exact ih fr (i+1) m qD qD qD h4 h5
   |some t=>
    rw[AU hc.1 hc.2 ht]at h5⊢
    have hle:=pS h3 ht
    have hre:=rK l t.til t.name hle.2.1
    have hs: ∀r c,sU r t.til c→sU (m++txt fr i++t::r) 0 c:=fun r c hr=>
     (h4.append (uU h2)).append ⟨hle.2.2.1,qD,fun x hx=>by have:=hle.2.2.2.2.2 x hx;rw[hle.2.2.1];exact this,⟨LL ht,Nat.le_trans (N2 h3 ht) hll⟩,hr⟩
    split
    ·rename_i hb
     rw[if_pos hb]at h5
     exact ih _ _ _ qD (Nat.le_refl _) hre.2 (hs _ _ (uU hre.1)) h5
    ·rename_i hb
     rw[if_neg hb]at h5
     exact ih _ _ _ qD (Nat.le_refl _) hle.2.1 (hs [] t.til rfl) h5
  ·rw[uS hc]at h5⊢
   simp at h5
   exact h4.append (uU qD)
theorem sU.plain {m:List Tk} {a b:Nat} (h:sU m a b):Plain m:=by
 induction m generalizing a with
 |nil=>intro t ht;cases ht
 |cons t m ih=>
  intro x hx
  cases hx with
  |head=>exact h.2.2.2.1.1
  |tail _ hx=>exact ih h.2.2.2.2 x hx
theorem N3:Opn Tryz.prog 5 (fun b:UInt8=>aZ b) (fun _=>True):=
 (nV Tryz.underlying5).map (fun n=>UInt8.ofNat n.toNat) (fun n h=>by
   have h':0≤n∧n≤255:=h
   have e:((UInt8.ofNat n.toNat).toNat:Int)=n:=by
    rw[UInt8.toNat_ofNat']
    omega
   show[D.lit (.int .u8 (((UInt8.ofNat n.toNat).toNat:Nat):Int))]=_
   rw[e]) (fun _ _=>trivial)
end Go.Proofs.YtdjfgcjlnfnfhaaGreatDoor
namespace Go.Proofs.YtdjfgcjlnfnfhaaGreatDoor
open Go.Lw
set_option maxRecDepth 100000
set_option maxHeartbeats 1000000
def inB (m:Bs) (c:UInt8):Bool:=jX c||bE c||m.contains c
@[simp] theorem VQ:gR∘aZ=id:=by funext b;simp[gR,aZ]
abbrev u8n (n:Int):D:= .lit (.int .u8 n)
def nBl (c:UInt8):Bool:= !aY c
def bsk (p:UInt8→Bool) (l:Bs) (i n:Nat):Nat:=min (skip p l i) n
theorem Hb {p:UInt8→Bool} {l:Bs} {i n:Nat} (h:i<n) (hn:n≤l.length):bsk p l i n=if p (l[i]?.getD 0)=true then bsk p l (i+1) n else i:=by
 unfold bsk
 rw[rC p l i qD]
 split
 ·rfl
 ·omega
theorem Ka {p:UInt8→Bool} {l:Bs} {i n:Nat} (h:n≤i):bsk p l i n=n:=by
 unfold bsk
 have:=bO p l i
 omega
theorem N4 {p:UInt8→Bool} {l:Bs} {i n:Nat} (h:i≤n):i≤bsk p l i n∧bsk p l i n≤n:=by
 unfold bsk
 have:=bO p l i
 omega
def sp (l:Bs) (a n:Nat):List (Nat×Nat):=if bsk aY l a n<bsk nBl l (bsk aY l a n) n then[(bsk aY l a n,bsk nBl l (bsk aY l a n) n)]else[]
def img (l:Bs) (L:List Bs):Nat→List (Nat×Nat)
 |0=>[]
 |k+1=>img l L k++sp l (rN L k) (rN L k+(L[k]?.getD []).length)
theorem Tl (l:Bs) (a n:Nat):(sp l a n).length≤1:=by unfold sp;split<;>simp
theorem Kb (l:Bs) (L:List Bs) (k:Nat):(img l L k).length≤k:=by
 induction k with
 |zero=>simp[img]
 |succ k ih=>have:=Tl l (rN L k) (rN L k+(L[k]?.getD []).length);simp[img];omega
abbrev encS (x:Nat×Nat):List D:=[int x.1,int x.2]
abbrev zS:List D:=[.lit (.int .i64 0),.lit (.int .i64 0)]
abbrev A0 (m:List (Nat×Nat)):D:= .sl m.length fun i=>encS (m[i]?.getD (0,0))
@[simp] theorem Ug (o:Option (Nat×Nat)):(Option.map encS o).getD [.lit (.int .i64 0),.lit (.int .i64 0)]=encS (o.getD (0,0)):=by cases o<;>rfl
theorem LM (l:Bs) (hm:l.length≤200000):aJ Tryz.prog 182 [str l] (A0 (img l (Lib.split l [44]) (Lib.split l [44]).length)):=by
 have hsp:=mM l 44 qD
 have hof:=nM l 44
 have hsl:=fG l 44
 generalize Lib.split l [44]=L at hsp hof hsl⊢
 refine aW Tryz.func182 rfl qC Tryz.ntmps182 _ rfl qE fun C hc=>?_
 repeat' (first|refine Wd ?_|(refine Wc ?_ ?_<;>intro hb<;>try simp at hb)|refine Zw hc (hf:=by exact hsp) (hk:=?_)|refine Zq hc (hf:=by exact hsp) (hk:=?_)|refine Wn ?_|fail)
 refine aN (fun x:Nat×List (Nat×Nat)=>⟨[(0,.d (str l)),(3,.os 40000 x.2.length),(4,.d (int (rN L x.1))),(11,.d (cE L)),(12,.d (int L.length)),(13,.d (int x.1))],[(40000,.own 32 2 (true,zS) (x.2.map encS))]⟩) (fun x=>x.1≤L.length∧x.2=img l L x.1) (fun x=>L.length-x.1) (0,[]) (by simp[img]) (cQ [(3,none,40000,32,zS)] [0,3,4,11,12,13] [40000] qA qA qA) ?_
 rintro⟨k,m⟩ ⟨h1,h2⟩
 simp only at h1 h2⊢
 have hml:m.length≤k:=by rw[h2];exact Kb l L k
 have hofk:=hof k
 have hnx:=vV L k
 have him:img l L (k+1)=m++sp l (rN L k) (rN L k+(L[k]?.getD []).length):=by rw[h2];rfl
 by_cases hk:k<L.length
 rotate_left
 ·have hke:k=L.length:=by omega
  repeat' (first|refine Wd ?_|(refine Wc ?_ ?_<;>intro hb<;>try simp at hb)|refine Wn ?_|fail)
  ·exfalso;omega
  ·rw[←hke,←h2]
   (refine Zl hc (hr:=?_))
   simp
 replace hofk:=hofk hk
 replace hnx:=hnx hk
 generalize rN L k=a at hofk hnx him⊢
 repeat' (first|refine Wd ?_|(refine Wc ?_ ?_<;>intro hb<;>try simp at hb)|refine Wn ?_|fail)
 ·generalize L[k]?.getD []=x at hofk hnx him⊢
  repeat' (first|refine Wd ?_|(refine Wc ?_ ?_<;>intro hb<;>try simp at hb)|refine Wn ?_|fail)
  refine aN (fun j:Nat=>⟨[(0,.d (str l)),(3,.os 40000 m.length),(7,.d (int j)),(8,.d (int (a+x.length))),(11,.d (cE L)),(12,.d (int L.length)),(13,.d (int k))],[(40000,.own 32 2 (true,zS) (m.map encS))]⟩) (fun j=>a≤j∧j≤a+x.length∧bsk aY l j (a+x.length)=bsk aY l a (a+x.length)) (fun j=>a+x.length-j) a qE (aG [0,3,7,8,11,12,13] [40000] qA qA) ?_
  rintro j ⟨j1,j2,j3⟩
  have js:=fun h=>Hb (p:=aY) (l:=l) (i:=j) h hofk
  have je:=fun h=>Ka (p:=aY) (l:=l) (i:=j) (n:=a+x.length) h
  repeat' (first|refine Wd ?_|(refine Wc ?_ ?_<;>intro hb<;>try simp at hb)|refine Zw hc (hf:=by exact cU _) (hk:=?_)|refine Zq hc (hf:=by exact cU _) (hk:=?_)|refine Wn ?_|fail)
  ·exact⟨j+1,⟨qD,qD,by rw[←j3,js qD,if_pos hb.2]⟩,qD,aC [0,3,7,8,11,12,13] [40000] qA qA qE⟩
  ·have hf:bsk aY l a (a+x.length)=j:=by
    rw[←j3]
    by_cases h:j<a+x.length
    ·rw[js h,if_neg (by rw[hb qD];decide)]
    ·rw[je qD];omega
   unfold sp at him
   rw[hf]at him
   refine aN (fun i:Nat=>⟨[(0,.d (str l)),(3,.os 40000 m.length),(7,.d (int j)),(8,.d (int (a+x.length))),(9,.d (int i)),(11,.d (cE L)),(12,.d (int L.length)),(13,.d (int k))],[(40000,.own 32 2 (true,zS) (m.map encS))]⟩) (fun i=>j≤i∧i≤a+x.length∧bsk nBl l i (a+x.length)=bsk nBl l j (a+x.length)) (fun i=>a+x.length-i) j qH (aG [0,3,7,8,9,11,12,13] [40000] qA qA) ?_
   rintro i ⟨i1,i2,i3⟩
   have is:=fun h=>Hb (p:=nBl) (l:=l) (i:=i) h hofk
   have ie:=fun h=>Ka (p:=nBl) (l:=l) (i:=i) (n:=a+x.length) h
   have hnb:nBl (l[i]?.getD 0)= !aY (l[i]?.getD 0):=rfl
   repeat' (first|refine Wd ?_|(refine Wc ?_ ?_<;>intro hb<;>try simp at hb)|refine Zw hc (hf:=by exact cU _) (hk:=?_)|refine Zq hc (hf:=by exact cU _) (hk:=?_)|refine Wn ?_|fail)
   ·exact⟨i+1,⟨qD,qD,by rw[←i3,is qD,if_pos (by rw[hnb,hb.2];rfl)]⟩,qD,aC [0,3,7,8,9,11,12,13] [40000] qA qA qE⟩
   all_goals
    have ht:bsk nBl l j (a+x.length)=i:=by
     rw[←i3]
     by_cases h:i<a+x.length
     ·rw[is h,if_neg (by rw[hnb,(show(i:Int)<a+x.length→aY (l[i]?.getD 0)=true by assumption) qD];decide)]
     ·rw[ie qD];omega
    rw[ht]at him
   ·rw[if_pos hb]at him
    exact⟨(k+1,m++[(j,i)]),⟨qH,him.symm⟩,qH,aC [0,3,4,11,12,13] [40000] qA qA (by simp[hnx])⟩
   ·rw[if_neg qD,List.append_nil]at him
    exact⟨(k+1,m),⟨qH,him.symm⟩,qH,aC [0,3,4,11,12,13] [40000] qA qA (by simp[hnx])⟩
 ·exfalso;omega
def wrd (l:Bs) (i:Nat) (w:Bs):Bool:=decide (i+w.length≤l.length)&&decide (small ((l.take (i+w.length)).drop i)=w)
theorem zA {l:Bs} {i:Nat} {w:Bs} (h:wrd l i w=true):i+w.length≤l.length:=by
 simp only[wrd,Bool.and_eq_true,decide_eq_true_eq]at h
 exact h.1
theorem Kc (l w:Bs) (i:Nat) (hi:i≤l.length) (hm:l.length≤200000) (hw:w.length≤200000):
 bJ Tryz.prog 240 [.bp 100000 0,.d (str w)] (scn l i) (.d (tru (wrd l i w))) (scn l ((if wrd l i w=true then i+w.length else i:Nat):Int)):=by
 refine cY Tryz.func240 rfl qC Tryz.ntmps240 _ rfl qE fun C hc=>?_
 by_cases h:i+w.length≤l.length
 ·have hsm:=bP ((l.take (i+w.length)).drop i) qH
  have eT:((i:Int)+(w.length:Int)).toNat=i+w.length:=by omega
  repeat' (first|refine Wd ?_|(refine Wc ?_ ?_<;>intro hb<;>try simp at hb)|refine Zw hc (hf:=Q2) (hk:=?_)|refine Zq hc (hf:=Q2) (hk:=?_)|refine Wn ?_|fail)
  ·have hf:wrd l i w=false:=by
    simp only[wrd,Bool.and_eq_false_iff,decide_eq_false_iff_not]
    right
    intro e
    rcases hb with hb|hb
    ·omega
    ·exact hb e
   rw[hf]
   (refine aE [100000] hc (aR rfl) qA qA qJ ?_)
   (first|(simp;done)|(simp;omega))
  ·have hf:wrd l i w=true:=by
    simp only[wrd,Bool.and_eq_true,decide_eq_true_eq]
    exact⟨h,hb.2⟩
   rw[hf]
   (refine aE [100000] hc (aR rfl) qA qA qJ ?_)
   (first|(simp;done)|(simp;omega))
 ·have hf:wrd l i w=false:=by
   simp only[wrd,Bool.and_eq_false_iff,decide_eq_false_iff_not]
   exact .inl h
  rw[hf]
  repeat' (first|refine Wd ?_|(refine Wc ?_ ?_<;>intro hb<;>try simp at hb)|refine Zw hc (hf:=Q2) (hk:=?_)|refine Zq hc (hf:=Q2) (hk:=?_)|refine Wn ?_|fail)
  ·(refine aE [100000] hc (aR rfl) qA qA qJ ?_)
   (first|(simp;done)|(simp;omega))
  ·exfalso;omega
def qB (c:UInt8):Bool:=decide (c.toNat≠34)&&decide (c.toNat≠39)&&decide (c.toNat≠10)&&decide (c.toNat≠41)
theorem I6 (c:UInt8):aJ Tryz.prog 310 [u8 c] (tru (qB c)):=by
 refine aW Tryz.func310 rfl qC Tryz.ntmps310 _ rfl qE fun C hc=>?_
 repeat' (first|refine Wd ?_|(refine Wc ?_ ?_<;>intro hb<;>try simp at hb)|fail)
 (refine Zl hc (hr:=?_))
 refine bT ?_
 rw[Bool.eq_iff_iff];simp[qB];omega
def uset:Bs:=[34,39,40,41]
def uB (c:UInt8):Bool:= !aY c&& !uset.contains c
theorem Ro (c:UInt8):aJ Tryz.prog 244 [u8 c] (tru (uB c)):=by
 refine aW Tryz.func244 rfl qC Tryz.ntmps244 _ rfl qE fun C hc=>?_
 repeat' (first|refine Wd ?_|(refine Wc ?_ ?_<;>intro hb<;>try simp at hb)|refine Zw hc (hf:=by first|exact cU _|exact bZ uset _) (hk:=?_)|refine Zq hc (hf:=by first|exact cU _|exact bZ uset _) (hk:=?_)|refine Wn ?_|fail)
 (refine Zl hc (hr:=?_))
 refine bT ?_
 have:=rD uset c
 rw[Bool.eq_iff_iff];cases h:aY c<;>simp[uB,h,this]
def isQ (l:Bs) (i:Nat):Prop:=l[i]?=some 34∨l[i]?=some 39
instance (l:Bs) (i:Nat):Decidable (isQ l i):=by unfold isQ;infer_instance
def quo (l:Bs) (i:Nat):Option (Nat×Nat)×Nat:=
 if isQ l i then
  if skip qB l (i+1)<l.length∧l[skip qB l (i+1)]?.getD 0=l[i]?.getD 0 then(some (i+1,skip qB l (i+1)),skip qB l (i+1)+1)else(none,skip qB l (i+1))
 else(none,i)
@[simp] def spD:Option (Nat×Nat)→D
  |some x=> .tup [.agg (encS x),tru true]
  |none=> .tup [.agg zS,tru false]
theorem CG (l:Bs) (i:Nat) (hi:i≤l.length) (hm:l.length≤200000):
 bJ Tryz.prog 243 [.bp 100000 0] (scn l i) (.d (spD (quo l i).1)) (scn l (quo l i).2):=by
 refine cY Tryz.func243 rfl qC Tryz.ntmps243 _ rfl qE fun C hc=>?_
 have hq:=gF l [34] i hi hm
 have hs:=gF l [39] i hi hm
 rw[iR]at hq hs
 unfold quo
 by_cases h:isQ l i
 rotate_left
 ·rw[if_neg h]
  have h1: ¬l[i]?=some 34:=fun e=>h (.inl e)
  have h2: ¬l[i]?=some 39:=fun e=>h (.inr e)
  rw[decide_eq_false h1]at hq
  rw[decide_eq_false h2]at hs
  repeat' (first|refine Wd ?_|(refine Wc ?_ ?_<;>intro hb<;>try simp at hb)|refine Zw hc (hf:=QG) (hk:=?_)|refine Zq hc (hf:=QG) (hk:=?_)|refine Wn ?_|fail)
  all_goals try contradiction
  (refine aE [100000] hc (aR rfl) qA qA qJ ?_)
  (first|(simp;done)|(simp;omega))
 rw[if_pos h]
 have hlt:i<l.length:=by rcases h with h|h<;>exact(List.getElem?_eq_some_iff.1 h).1
 have h1:=bO qB l (i+1)
 have h2:=cI qB l (i+1) qD
 have hsk:=iQ qB _ I6 l (i+1) qD hm
 generalize skip qB l (i+1)=e at h1 h2 hsk⊢
 repeat' (first|refine Wd ?_|(refine Wc ?_ ?_<;>intro hb<;>try simp at hb)|refine Zw hc (hf:=QG) (hk:=?_)|refine Zq hc (hf:=QG) (hk:=?_)|refine Wn ?_|refine aF ([(100000,100000)]) (hsk) hc qA qA qA qA qA rfl qA qA rfl qE qE qA qA ?_|fail)
 ·exfalso
  rcases h with h|h
  ·exact hb.1 h
  ·exact hb.2 h
 ·rw[if_neg (by
   rintro⟨h3,h4⟩
   rcases hb with hb|hb
   ·omega
   ·exact hb (by rw[h4]))]
  (refine aE [100000] hc (aR rfl) qA qA qJ ?_)
  (first|(simp;done)|(simp;omega))
 ·rw[if_pos ⟨qD,UInt8.toNat_inj.1 qD⟩]
  (refine aE [100000] hc (aR rfl) qA qA qJ ?_)
  (first|(simp;done)|(simp;omega))
theorem I7 (l:Bs) (i:Nat) (hi:i≤l.length):i≤(quo l i).2∧(quo l i).2≤l.length∧ ∀x,(quo l i).1=some x→i<(quo l i).2:=by
 have h1:=bO qB l (i+1)
 unfold quo
 split
 ·rename_i h
  have hlt:i<l.length:=by rcases h with h|h<;>exact(List.getElem?_eq_some_iff.1 h).1
  have h2:=cI qB l (i+1) qD
  split
  ·exact⟨qH,qH,fun x hx=>by simp;omega⟩
  ·exact⟨qH,qH,fun x hx=>by cases hx⟩
 ·exact⟨Nat.le_refl _,hi,fun x hx=>by cases hx⟩
def I8:Bs:=[117,114,108,40]
def I9:Bs:=[64,105,109,112,111,114,116]
def wR (l:Bs) (i:Nat):Option (Nat×Nat)×Nat:=
 if wrd l i I8=true then
  match quo l (skip aY l (i+4))with
  |(some x,e)=>if l[skip aY l e]?=some 41 then(some x,skip aY l e+1)else(none,skip aY l e)
  |(none,e)=>if isQ l e then(none,e)
   else if skip uB l e=e then(none,e)
   else if l[skip aY l (skip uB l e)]?=some 41 then(some (e,skip uB l e),skip aY l (skip uB l e)+1)else(none,skip aY l (skip uB l e))
 else(none,i)
theorem Tm (l:Bs) (i:Nat) (hi:i≤l.length) (hm:l.length≤200000):
 bJ Tryz.prog 167 [.bp 100000 0] (scn l i) (.d (spD (wR l i).1)) (scn l (wR l i).2):=by
 refine cY Tryz.func167 rfl qC Tryz.ntmps167 _ rfl qE fun C hc=>?_
 have hw:=Kc l I8 i hi hm (by simp[I8])
 unfold wR
 by_cases h:wrd l i I8=true
 rotate_left
 ·rw[if_neg h]
  rw[Bool.eq_false_iff.2 h,if_neg qK]at hw
  repeat' (first|refine Wd ?_|(refine Wc ?_ ?_<;>intro hb<;>try simp at hb)|refine Wn ?_|refine aF ([(100000,100000)]) (hw) hc qA qA qA qA qA rfl qA qA rfl qE qE qA qA ?_|fail)
  all_goals try contradiction
  (refine aE [100000] hc (aR rfl) qA qA qJ ?_)
  (first|(simp;done)|(simp;omega))
 have hil:=zA h
 rw[if_pos h]
 rw[h,if_pos rfl]at hw
 simp only[show I8.length=4 from rfl]at hil hw
 have h1:=bO aY l (i+4)
 have h2:=cI aY l (i+4) hil
 have hs1:=iQ aY _ cU l (i+4) hil hm
 generalize skip aY l (i+4)=b at h1 h2 hs1⊢
 have hq:=CG l b h2 hm
 have hql:=I7 l b h2
 generalize quo l b=q at hq hql⊢
 obtain⟨_|x,e⟩:=q
 ·simp only[spD]at hq hql⊢
  have hiq:isQ l e↔e<l.length∧(((l[e]?.getD 0).toNat:Int)=34∨((l[e]?.getD 0).toNat:Int)=39):=by
   unfold isQ
   by_cases he:e<l.length
   ·rw[List.getElem?_eq_getElem he]
    simp only[Option.some.injEq,Option.getD_some,he,true_and,←UInt8.toNat_inj]
    constructor
    ·rintro(h|h)
     ·exact .inl (by rw[h];rfl)
     ·exact .inr (by rw[h];rfl)
    ·rintro(h|h)
     ·exact .inl (by show _=34;omega)
     ·exact .inr (by show _=39;omega)
   ·simp[he]
  have hs2:=iQ uB _ Ro l e hql.2.1 hm
  have h3:=bO uB l e
  have h4:=cI uB l e hql.2.1
  generalize skip uB l e=t at hs2 h3 h4⊢
  have hs3:=iQ aY _ cU l t h4 hm
  have h5:=bO aY l t
  have h6:=cI aY l t h4
  generalize skip aY l t=c at hs3 h5 h6⊢
  have hg:=gF l [41] c h6 hm
  rw[iR]at hg
  repeat' (first|refine Wd ?_|(refine Wc ?_ ?_<;>intro hb<;>try simp at hb)|refine Zw hc (hf:=by exact hg) (hk:=?_)|refine Zq hc (hf:=by exact hg) (hk:=?_)|refine Wn ?_|refine aF ([(100000,100000)]) (hw) hc qA qA qA qA qA rfl qA qA rfl qE qE qA qA ?_|refine aF ([(100000,100000)]) (hs1) hc qA qA qA qA qA rfl qA qA rfl qE qE qA qA ?_|refine aF ([(100000,100000)]) (hq) hc qA qA qA qA qA rfl qA qA rfl qE qE qA qA ?_|refine aF ([(100000,100000)]) (hs2) hc qA qA qA qA qA rfl qA qA rfl qE qE qA qA ?_|refine aF ([(100000,100000)]) (hs3) hc qA qA qA qA qA rfl qA qA rfl qE qE qA qA ?_|fail)
  all_goals try contradiction
  ·rw[if_pos (hiq.2 hb)]
   (refine aE [100000] hc (aR rfl) qA qA qJ ?_)
   (first|(simp;done)|(simp;omega))
  all_goals
   have hnq: ¬isQ l e:=fun h=>by
    obtain⟨q1,q2⟩:=hiq.1 h
    have q3:=(show e<l.length→ ¬((l[e]?.getD 0).toNat:Int)=34∧ ¬((l[e]?.getD 0).toNat:Int)=39 by assumption) q1
    rcases q2 with q2|q2
    ·exact q3.1 q2
    ·exact q3.2 q2
  ·rw[if_neg hnq,if_pos qD]
   (refine aE [100000] hc (aR rfl) qA qA qJ ?_)
   (first|(simp;done)|(simp;omega))
  ·rw[if_neg hnq,if_neg qD,if_neg hb]
   (refine aE [100000] hc (aR rfl) qA qA qJ ?_)
   (first|(simp;done)|(simp;omega))
  ·rw[if_neg hnq,if_neg qD,if_pos hb]
   have hcl:=(List.getElem?_eq_some_iff.1 hb).1
   (refine aE [100000] hc (aR rfl) qA qA qJ ?_)
   (first|(simp;done)|(simp;omega))
 ·simp only[spD]at hq hql⊢
  have hs3:=iQ aY _ cU l e hql.2.1 hm
  have h5:=bO aY l e
  have h6:=cI aY l e hql.2.1
  generalize skip aY l e=c at hs3 h5 h6⊢
  have hg:=gF l [41] c h6 hm
  rw[iR]at hg
  repeat' (first|refine Wd ?_|(refine Wc ?_ ?_<;>intro hb<;>try simp at hb)|refine Zw hc (hf:=by exact hg) (hk:=?_)|refine Zq hc (hf:=by exact hg) (hk:=?_)|refine Wn ?_|refine aF ([(100000,100000)]) (hw) hc qA qA qA qA qA rfl qA qA rfl qE qE qA qA ?_|refine aF ([(100000,100000)]) (hs1) hc qA qA qA qA qA rfl qA qA rfl qE qE qA qA ?_|refine aF ([(100000,100000)]) (hq) hc qA qA qA qA qA rfl qA qA rfl qE qE qA qA ?_|refine aF ([(100000,100000)]) (hs3) hc qA qA qA qA qA rfl qA qA rfl qE qE qA qA ?_|fail)
  all_goals try contradiction
  ·rw[if_neg hb]
   (refine aE [100000] hc (aR rfl) qA qA qJ ?_)
   (first|(simp;done)|(simp;omega))
  ·rw[if_pos hb]
   have hcl:=(List.getElem?_eq_some_iff.1 hb).1
   (refine aE [100000] hc (aR rfl) qA qA qJ ?_)
   (first|(simp;done)|(simp;omega))
theorem Kd (l:Bs) (i:Nat) (hi:i≤l.length):(wR l i).2≤l.length∧ ∀x,(wR l i).1=some x→i<(wR l i).2:=by
 unfold wR
 by_cases h:wrd l i I8=true
 rotate_left
 ·rw[if_neg h];exact⟨hi,fun x hx=>by cases hx⟩
 rw[if_pos h]
 have hil:=zA h
 simp only[show I8.length=4 from rfl]at hil
 have h1:=bO aY l (i+4)
 have h2:=cI aY l (i+4) hil
 have hq:=I7 l (skip aY l (i+4)) h2
 generalize quo l (skip aY l (i+4))=q at hq⊢
 obtain⟨_|x,e⟩:=q
 ·simp only at hq⊢
  have h3:=bO uB l e
  have h4:=cI uB l e hq.2.1
  have h5:=bO aY l (skip uB l e)
  have h6:=cI aY l (skip uB l e) h4
  split
  ·exact⟨qH,fun x hx=>by cases hx⟩
  ·split
   ·exact⟨qH,fun x hx=>by cases hx⟩
   ·split
    ·rename_i hb
     have hcl:=(List.getElem?_eq_some_iff.1 hb).1
     exact⟨qH,fun x hx=>by simp;omega⟩
    ·exact⟨qH,fun x hx=>by cases hx⟩
 ·simp only at hq⊢
  have h5:=bO aY l e
  have h6:=cI aY l e hq.2.1
  split
  ·rename_i hb
   have hcl:=(List.getElem?_eq_some_iff.1 hb).1
   exact⟨qH,fun x hx=>by simp;omega⟩
  ·exact⟨qH,fun x hx=>by cases hx⟩
def wS (l:Bs) (i:Nat):Option (Nat×Nat)×Nat:=
 if wrd l i I9=true then(if skip aY l (i+7)=i+7 then(none,i+7)else quo l (skip aY l (i+7)))else(none,i)
theorem Ke (l:Bs) (i:Nat) (hi:i≤l.length):(wS l i).2≤l.length∧ ∀x,(wS l i).1=some x→i<(wS l i).2:=by
 unfold wS
 by_cases h:wrd l i I9=true
 rotate_left
 ·rw[if_neg h];exact⟨hi,fun x hx=>by cases hx⟩
 rw[if_pos h]
 have hil:=zA h
 simp only[show I9.length=7 from rfl]at hil
 have h1:=bO aY l (i+7)
 have h2:=cI aY l (i+7) hil
 have hq:=I7 l (skip aY l (i+7)) h2
 split
 ·exact⟨hil,fun x hx=>by cases hx⟩
 ·exact⟨hq.2.1,fun x hx=>by omega⟩
theorem Hc (l:Bs) (i:Nat) (hi:i≤l.length) (hm:l.length≤200000):
 bJ Tryz.prog 168 [.bp 100000 0] (scn l i) (.d (spD (wS l i).1)) (scn l (wS l i).2):=by
 refine cY Tryz.func168 rfl qC Tryz.ntmps168 _ rfl qE fun C hc=>?_
 have hw:=Kc l I9 i hi hm (by simp[I9])
 unfold wS
 by_cases h:wrd l i I9=true
 rotate_left
 ·rw[if_neg h]
  rw[Bool.eq_false_iff.2 h,if_neg qK]at hw
  repeat' (first|refine Wd ?_|(refine Wc ?_ ?_<;>intro hb<;>try simp at hb)|refine Wn ?_|refine aF ([(100000,100000)]) (hw) hc qA qA qA qA qA rfl qA qA rfl qE qE qA qA ?_|refine iM hc qA qE ?_|fail)
  all_goals try contradiction
  (refine aE [100000] hc (aR rfl) qA qA qJ ?_)
  (first|(simp;done)|(simp;omega))
 have hil:=zA h
 rw[if_pos h]
 rw[h,if_pos rfl]at hw
 simp only[show I9.length=7 from rfl]at hil hw
 have h1:=bO aY l (i+7)
 have h2:=cI aY l (i+7) hil
 have hs1:=iQ aY _ cU l (i+7) hil hm
 generalize skip aY l (i+7)=b at h1 h2 hs1⊢
 have hq:=CG l b h2 hm
 generalize quo l b=q at hq⊢
 obtain⟨_|x,e⟩:=q
 ·simp only[spD]at hq⊢
  repeat' (first|refine Wd ?_|(refine Wc ?_ ?_<;>intro hb<;>try simp at hb)|refine Wn ?_|refine aF ([(100000,100000)]) (hw) hc qA qA qA qA qA rfl qA qA rfl qE qE qA qA ?_|refine aF ([(100000,100000)]) (hs1) hc qA qA qA qA qA rfl qA qA rfl qE qE qA qA ?_|refine aF ([(100000,100000)]) (hq) hc qA qA qA qA qA rfl qA qA rfl qE qE qA qA ?_|fail)
  ·rw[if_pos qD]
   (refine aE [100000] hc (aR rfl) qA qA qJ ?_)
   (first|(simp;done)|(simp;omega))
  ·rw[if_neg qD]
   (refine aE [100000] hc (aR rfl) qA qA qJ ?_)
   (first|(simp;done)|(simp;omega))
 ·simp only[spD]at hq⊢
  repeat' (first|refine Wd ?_|(refine Wc ?_ ?_<;>intro hb<;>try simp at hb)|refine Wn ?_|refine aF ([(100000,100000)]) (hw) hc qA qA qA qA qA rfl qA qA rfl qE qE qA qA ?_|refine aF ([(100000,100000)]) (hs1) hc qA qA qA qA qA rfl qA qA rfl qE qE qA qA ?_|refine aF ([(100000,100000)]) (hq) hc qA qA qA qA qA rfl qA qA rfl qE qE qA qA ?_|fail)
  ·rw[if_pos qD]
   (refine aE [100000] hc (aR rfl) qA qA qJ ?_)
   (first|(simp;done)|(simp;omega))
  ·rw[if_neg qD]
   (refine aE [100000] hc (aR rfl) qA qA qJ ?_)
   (first|(simp;done)|(simp;omega))
end Go.Proofs.YtdjfgcjlnfnfhaaGreatDoor
