/- A DESK: a store is copied. -/
import Derived.Test.YtdjfgcjlnfnfhaaGreatDoorLwEx
import Derived.Test.YtdjfgcjlnfnfhaaGreatDoorLtE
import Derived.Test.YtdjfgcjlnfnfhaaGreatDoorLtA
import Derived.Test.YtdjfgcjlnfnfhaaGreatDoorKeyP
import Derived.Test.YtdjfgcjlnfnfhaaGreatDoorAdA
import Derived.Test.YtdjfgcjlnfnfhaaGreatDoorDtE
import Derived.Test.YtdjfgcjlnfnfhaaGreatDoorBag
set_option linter.unusedSimpArgs false
set_option linter.unusedVariables false
namespace Go.Proofs.YtdjfgcjlnfnfhaaGreatDoor
open Go.Lw Go.RowKit Go.ChangeShapes Go.WideShapes Go.ChangeAt
set_option maxRecDepth 100000
set_option maxHeartbeats 2000000
theorem L1 (b:Adr) (s:Bs):(mA b s).1.dH.length≤2000:=by
 unfold mA
 split
 ·simp
 split
 ·simp
 generalize ND b (nU s)=x
 unfold DN
 split
 ·simp
 split
 ·simp
 ·rename_i h
  exact(rI (Classical.not_not.1 h)).2.2.2.2.2
theorem s0 (a b:Adr) (k:Nat) (text:Bs) (fr til:Nat):jU (iB a b k text fr til):=by
 unfold iB
 generalize (if k=1 then a else b)=c
 split
 ·exact⟨CK _ _,L1 _ _⟩
 ·exact⟨⟨qE,qE,qE,qE,qE,qE⟩,qE⟩
theorem u6 (a b:Adr) (t:Tk): ∀k,∀x∈cO a b t k,jU x
 |0,x,hx=>by cases hx
 |k+1,x,hx=>by
  rcases List.mem_append.1 (show x∈cO a b t k++jZ a b t k from hx)with h|h
  ·exact u6 a b t k x h
  ·unfold jZ at h
   split at h
   ·obtain⟨y,_,rfl⟩:=List.mem_map.1 h
    exact s0 _ _ _ _ _ _
   ·cases h
theorem yC (p:Bs) (a b:Adr) (m:List Tk): ∀i,∀x∈eC p a b m i,jU x
 |0,x,hx=>by cases hx
 |i+1,x,hx=>by
  rcases List.mem_append.1 (show x∈eC p a b m i++A5 p a b m i from hx)with h|h
  ·exact yC p a b m i x h
  ·rcases List.mem_append.1 (show x∈lU p a b m i++cO a b (m[i]?.getD .none) (m[i]?.getD .none).aH.length from h)with h|h
   ·unfold lU at h
    split at h
    ·obtain⟨y,_,rfl⟩:=List.mem_map.1 h
     exact s0 _ _ _ _ _ _
    ·cases h
   ·exact u6 a b _ _ x h
theorem CO {m:List Tk} {a b:Nat} (h:sU m a b): ∀i,i+1<m.length→(m[i]?.getD Tk.none).til≤(m[i+1]?.getD Tk.none).fr:=by
 induction m generalizing a with
 |nil=>intro i hi;simp at hi
 |cons t m ih=>
  intro i hi
  cases i with
  |zero=>
   cases m with
   |nil=>simp at hi
   |cons u m=>
    have:=h.2.2.2.2.1
    simp;omega
  |succ i=>simpa using ih h.2.2.2.2 i qU
theorem aJ.args {P:Program} {f:FuncId} {l m:List D} {res:D} (hl:l.length=m.length) (hw: ∀(i:Nat) (e:D),m[i]?=some e→ ∃d,l[i]?=some d∧cJ d e) (h:aJ P f m res):aJ P f l res:=
 ⟨h.1,fun ok w vs hok hs ha=>h.2 ok w vs hok hs ⟨ha.1.trans hl,fun i e hi=>by
   obtain⟨d,h1,h2⟩:=hw i e hi
   obtain⟨v,h3,h4⟩:=ha.2 i d h1
   exact⟨v,h3,h2 _ _ _ h4⟩⟩⟩
def edF (p:Bs) (a:Adr) (T:List Trn):EdS:=lC p T (iC p a (run p 0 0 [])) (run p 0 0 []) (run p 0 0 []).length
theorem Tw (p:Bs) (a:Adr) (T:List Trn) (hT:oN T=0) (h:fdE p a=0):
 bJ Tryz.prog 53 [.bp 100000 0,.d (str p),.d (dX (run p 0 0 [])),.d (oK (iC p a (run p 0 0 [])))] (tur 100000 T 0) (.d (Kl (edF p a T).E)) (tur 100000 T (edF p a T).n)∧oA (edF p a T) p.length∧(edF p a T).k≤5000:=by
 obtain⟨h1,h2,h3⟩:=Ba h
 have hS:=AZ p h1.1 p.length 0 0 [] qD (Nat.le_refl _) qD rfl h1.2
 have hm:=Hh p h1
 have hT2:=N8 p
 have hA: ∀i,i<(run p 0 0 []).length→uV ((run p 0 0 [])[i]?.getD Tk.none).aH ((run p 0 0 [])[i]?.getD Tk.none).fr ((run p 0 0 [])[i]?.getD Tk.none).til:=fun i hi=>by
  rw[List.getElem?_eq_getElem hi]
  exact(hT2 _ (List.getElem_mem hi)).ord
 have hst:=(CH p a (fH (run p 0 0 []) a 0) (run p 0 0 []) 0 (Nat.zero_le _)).2.2 h3
 have hLe:iC p a (run p 0 0 [])=eC p a (fH (run p 0 0 []) a 0) (run p 0 0 []) (run p 0 0 []).length:=by
  unfold iC
  rw[hst]
 have hL: ∀x∈iC p a (run p 0 0 []),jU x:=fun x hx=>yC _ _ _ _ _ x hx
 refine⟨Ov p T hT _ hm hA (CO hS) a _ _ hLe h3 hL,?_,?_⟩
 ·have:=Ep hT hL hm hA (CO hS) a (fH (run p 0 0 []) a 0) (by rw[←hLe];exact h3) _ (Nat.le_refl _)
  rw[if_neg (Nat.lt_irrefl _)]at this
  exact this
 ·have:=Eo p T (iC p a (run p 0 0 [])) a (fH (run p 0 0 []) a 0) (run p 0 0 []) (run p 0 0 []).length
  unfold edF
  rw[this,←hLe]
  exact h3
def rwD (p:Bs) (a:Adr) (T:List Trn):D:=
 if fdE p a≠0 then .tup [fQ,int 0,int (fdE p a)]else if oN T≠0 then .tup [fQ,int 0,int (oN T)]
 else if 200000<(Jf p (edF p a T).E).length then .tup [fQ,int 0,int 2]else .tup [byS (Jf p (edF p a T).E),int (edF p a T).n,int 0]
abbrev zC (T:List Trn):Prop:= ∀i,(bL T i).1.length≤9223372036854775807∧(bL T i).2.length≤9223372036854775807
theorem Jh (p:Bs) (a:Adr) (T:List Trn) (hm:p.length≤maxLen) (ha:a.Fits) (hT:zC T):aJ Tryz.prog 19 [byS p,dI a,mX T] (rwD p a T):=by
 have hF:=Hj p a hm ha
 refine aW Tryz.func19 rfl qC Tryz.ntmps19 _ rfl qE fun C hc=>?_
 have hCT:=rZ T hT
 unfold maxLen at hm
 unfold rwD
 by_cases h:fdE p a=0
 rotate_left
 ·rw[if_neg h]at hF
  rw[if_pos h]
  repeat' (first|refine Wd ?_|(refine Wc ?_ ?_<;>intro hb<;>try simp at hb)|refine Zw hc (hf:=qaM) (hk:=?_)|refine Zq hc (hf:=qaM) (hk:=?_)|refine Wn ?_|fail)
  all_goals try contradiction
  (refine Zl hc (hr:=?_))
  simp
 rw[if_pos h]at hF
 rw[if_neg (fun e=>e h)]
 by_cases hE0:oN T=0
 rotate_left
 ·rw[if_pos hE0]
  generalize iC p a (run p 0 0 [])=L at hF
  generalize run p 0 0 []=m at hF
  repeat' (first|refine Wd ?_|(refine Wc ?_ ?_<;>intro hb<;>try simp at hb)|refine Zw hc (hf:=QB) (hk:=?_)|refine Zq hc (hf:=QB) (hk:=?_)|refine Wn ?_|fail)
  all_goals try contradiction
  (refine Zl hc (hr:=?_))
  simp
 rw[if_neg (fun e=>e hE0)]
 obtain⟨hEd,hin,hk5⟩:=Tw p a T hE0 h
 obtain⟨h1,h2,h3⟩:=Ba h
 have hAp:=Ht p (edF p a T).E h1.1 (by have:=hin.less;have:=hin.many;omega) hin.ord hin.new
 rw[hE0]at hCT
 generalize edF p a T=s at hEd hAp⊢
 generalize iC p a (run p 0 0 [])=L at hF hEd
 generalize run p 0 0 []=m at hF hEd
 by_cases hb2:200000<(Jf p s.E).length
 ·rw[if_pos hb2]at hAp⊢
  repeat' (first|refine Wd ?_|(refine Wc ?_ ?_<;>intro hb<;>try simp at hb)|refine Zw hc (hf:=QB) (hk:=?_)|refine Zq hc (hf:=QB) (hk:=?_)|refine Wm ?_|fail)
  all_goals try contradiction
  refine bA (aG [0,9,10,13] [32] qA qA) ?_
  (apply Xd 14 hc;(focus(refine Xm 0 hc (hk:=?_);refine Xm 2 hc (hk:=?_);refine Xm 3 hc (hk:=?_);refine Xm 5 hc (hk:=?_);refine Xm 6 hc (hk:=?_);refine Xa [1,4] (hx:=?_);refine⟨?_,?_⟩;(focus(refine Xw hc (hk:=?q80);refine Xa [4] (hx:=?nq80);(focus(refine Xw hc (hk:=?q81);refine Xa [7] (hx:=?nq81);(focus(refine Xs ([(100000,32)]) (hEd) hc (hk:=?q82);refine Xa [8] (hx:=?nq82);(focus(refine Xc hc (hf:=hAp) (hk:=?q83);refine Xm 9 hc (hk:=?nq83);refine Xa [10,11] (hx:=?_);refine⟨?_,?_⟩;(focus(refine Xw hc (hk:=?q84);refine Xm 12 hc (hk:=?nq84);refine Xa [11] (hx:=?_);(focus(refine Xw hc (hk:=?q85);refine Xm 13 hc (hk:=?nq85);refine Xz (hk:=?_);exact Xk [11,13,14] [32]))));(focus(refine Xw hc (hk:=?q86);refine Xa [10] (hx:=?nq86);(focus(refine Xw hc (hk:=?q87);refine Xm 12 hc (hk:=?nq87);refine Xm 13 hc (hk:=?_);refine Xz (hk:=?_);exact Xb [11,13,14] [32]))))))))))));(focus(refine Xw hc (hk:=?q88);refine Xa [1,7] (hx:=?nq88);refine⟨?_,?_⟩;(focus(refine Xw hc (hk:=?_);exact Xq ?q81));(focus(refine Xs ([(100000,32)]) (hEd) hc (hk:=?q89);refine Xa [1] (hx:=?nq89);(focus(refine Xw hc (hk:=?_);exact Xq ?q82)))))))))
  repeat' (first|refine Wd ?_|(refine Wc ?_ ?_<;>intro hb<;>try simp at hb)|refine Wm ?_|fail)
  all_goals try contradiction
  (refine Zl hc (hr:=?_))
  simp
 ·rw[if_neg hb2]at hAp⊢
  repeat' (first|refine Wd ?_|(refine Wc ?_ ?_<;>intro hb<;>try simp at hb)|refine Zw hc (hf:=QB) (hk:=?_)|refine Zq hc (hf:=QB) (hk:=?_)|refine Wm ?_|fail)
  all_goals try contradiction
  refine bA (aG [0,9,10,13] [32] qA qA) ?_
  (apply Xd 14 hc;(focus(refine Xm 0 hc (hk:=?_);refine Xm 2 hc (hk:=?_);refine Xm 3 hc (hk:=?_);refine Xm 5 hc (hk:=?_);refine Xm 6 hc (hk:=?_);refine Xa [1,4] (hx:=?_);refine⟨?_,?_⟩;(focus(refine Xw hc (hk:=?qb80);refine Xa [4] (hx:=?nqb80);(focus(refine Xw hc (hk:=?qb81);refine Xa [7] (hx:=?nqb81);(focus(refine Xs ([(100000,32)]) (hEd) hc (hk:=?qb82);refine Xa [8] (hx:=?nqb82);(focus(refine Xc hc (hf:=hAp) (hk:=?qb83);refine Xm 9 hc (hk:=?nqb83);refine Xa [10,11] (hx:=?_);refine⟨?_,?_⟩;(focus(refine Xw hc (hk:=?qb84);refine Xm 12 hc (hk:=?nqb84);refine Xa [11] (hx:=?_);(focus(refine Xw hc (hk:=?qb85);refine Xm 13 hc (hk:=?nqb85);refine Xz (hk:=?_);exact Xk [11,13,14] [32]))));(focus(refine Xw hc (hk:=?qb86);refine Xa [10] (hx:=?nqb86);(focus(refine Xw hc (hk:=?qb87);refine Xm 12 hc (hk:=?nqb87);refine Xm 13 hc (hk:=?_);refine Xz (hk:=?_);exact Xb [11,13,14] [32]))))))))))));(focus(refine Xw hc (hk:=?qb88);refine Xa [1,7] (hx:=?nqb88);refine⟨?_,?_⟩;(focus(refine Xw hc (hk:=?_);exact Xq ?qb81));(focus(refine Xs ([(100000,32)]) (hEd) hc (hk:=?qb89);refine Xa [1] (hx:=?nqb89);(focus(refine Xw hc (hk:=?_);exact Xq ?qb82)))))))))
  repeat' (first|refine Wd ?_|(refine Wc ?_ ?_<;>intro hb<;>try simp at hb)|refine Wn ?_|fail)
  all_goals try contradiction
  (refine Zl hc (hr:=?_))
  simp
theorem Ji (p:Bs) (a:Adr): ∀x∈n0 p a,jU x:=by
 intro x hx
 obtain⟨y,_,rfl⟩:=List.mem_map.1 hx
 exact s0 _ _ _ _ _ _
def VV (x:Trn):Prop:=x.1.length≤reachBytes∧x.2.length≤reachBytes
def W0 (l:List Trn):Prop:=l.length≤maxLen∧ ∀x∈l,VV x
end Go.Proofs.YtdjfgcjlnfnfhaaGreatDoor
namespace Go.Proofs.YtdjfgcjlnfnfhaaGreatDoor
open Go.Lw Go.RowKit
set_option maxRecDepth 100000
set_option maxHeartbeats 8000000
@[simp] theorem Uk (o:Option Edt):(Option.map Je o).getD [int 0,int 0,str []]=Je (o.getD .none):=by cases o<;>rfl
def RG (d:D):Prop:= ∃(m:Nat) (g:Nat→UInt8) (k e:Int),d= .tup [byF m g,int k,int e]
theorem rwS (b:Bs) (k e:Int): ∃r',cJ (.tup [byS b,int k,int e]) r'∧RG r':=⟨_,cJ.refl _,_,_,k,e,rfl⟩
theorem rwN (k e:Int): ∃r',cJ (.tup [fQ,int k,int e]) r'∧RG r':=⟨_,eZ (bY _),0,fun _=>0,k,e,rfl⟩
theorem L3 (n:Nat) (g:Nat→UInt8) (a:Adr) (T:List Trn) (hn:n≤1000000) (ha:a.Fits) (hT:zC T):aV Tryz.prog 19 [byF n g,dI a,mX T] RG:=by
 refine uX ?_
 have h:=Jh ((List.range n).map g) a T (by simp[maxLen];omega) ha hT
 refine aV.mono (G:=fun d=>d=rwD ((List.range n).map g) a T) ⟨_,rfl,h⟩ ?_
 rintro _ rfl
 unfold rwD
 split
 ·exact rwN _ _
 ·split
  ·exact rwN _ _
  ·split
   ·exact rwN _ _
   ·exact rwS _ _ _
theorem Jj (n:Nat) (g:Nat→UInt8) (a:Adr) (T:List Trn) (hn:n≤1000000) (ha:a.Fits) (hT:zC T):aV Tryz.prog 21 [byF n g,dI a,mX T] RG:=by
 refine uX ?_
 obtain⟨p,hp⟩: ∃p,(List.range n).map g=p:=⟨_,rfl⟩
 have hm:p.length≤1000000:=by rw[←hp];simpa using hn
 rw[hp]
 clear hp
 have hF:=rY p a (by unfold maxLen;omega) ha
 have hCT:=rZ T hT
 refine aV.mono (G:=fun d=>(∃e:Int,d= .tup [fQ,int 0,int e])∨ ∃(b:Bs) (k:Int),d= .tup [byS b,int k,int 0]) (bI Tryz.func21 rfl qC Tryz.ntmps21 _ rfl qE ?_) ?_
 rotate_left
 ·rintro _ (⟨e,rfl⟩|⟨b,k,rfl⟩)
  ·exact rwN _ _
  ·exact rwS _ _ _
 by_cases h:stE p a=0
 rotate_left
 ·rw[if_neg h]at hF
  repeat' (first|refine Va ?_|(with_reducible refine aB (ht:=fun hb=>?_) (hf:=fun hb=>?_)<;>(try simp at hb))|refine Vn ?_|refine Vl (hG:=?_)|refine Vc (hf:=qaM) (h:=?_)|fail)
  all_goals first|contradiction|exact .inl ⟨_,rfl⟩
 rw[if_pos h]at hF
 by_cases hE0:oN T=0
 rotate_left
 ·generalize n0 p a=Q at hF
  repeat' (first|refine Va ?_|(with_reducible refine aB (ht:=fun hb=>?_) (hf:=fun hb=>?_)<;>(try simp at hb))|refine Vn ?_|refine Vl (hG:=?_)|refine Vc (hf:=qaM) (h:=?_)|refine Vc (hf:=by exact hCT) (h:=?_)|fail)
  all_goals first|contradiction|exact .inl ⟨_,rfl⟩
 rw[hE0]at hCT
 have hpl:p.length≤200000:=by
  unfold stE at h
  split at h
  ·cases h
  ·omega
 have hL:=Ji p a
 have hO:=lS p 0 (Nat.zero_le _)
 obtain⟨X,hX⟩: ∃X,inS p 0=X:=⟨_,rfl⟩
 have hQX:(n0 p a).length=X.length:=by simp[n0,hX]
 have hQf: ∀j,j<X.length→((n0 p a)[j]?.getD .none).fr=(X[j]?.getD (0,0)).1∧((n0 p a)[j]?.getD .none).til=(X[j]?.getD (0,0)).2:=fun j hj=>by
  simp only[n0,hX,List.getElem?_map,List.getElem?_eq_getElem hj,Option.map_some,Option.getD_some]
  exact(Rx ..).2.2
 have hql:X.length≤5000:=by
  unfold stE at h
  rw[if_neg qD]at h
  split at h
  ·rename_i h0;exact absurd h h0
  ·split at h
   ·cases h
   ·rw[←hX];omega
 rw[hX]at hO
 clear hX
 generalize n0 p a=Q at hF hL hQX hQf
 repeat' (first|refine Va ?_|(with_reducible refine aB (ht:=fun hb=>?_) (hf:=fun hb=>?_)<;>(try simp at hb))|refine Vn ?_|refine Vl (hG:=?_)|refine Vc (hf:=qaM) (h:=?_)|refine Vc (hf:=by exact hCT) (h:=?_)|fail)
 all_goals try contradiction
 refine dP [(13,none,40000,144,[int 0,int 0,str []])] [0,12,13,36,37,38] [35,40000] (fun x:Nat×EdS=>[(38,.d (int x.1)),(13,.os 40000 x.2.E.length)]) (fun x=>[(35,.box 134 [.d (mX T),.d (int x.2.n)]),(40000,.own 144 3 (true,[int 0,int 0,str []]) (x.2.E.map Je))]) (fun x=>x.1≤X.length∧oA x.2 (if x.1<X.length then(X[x.1]?.getD (0,0)).1 else p.length)∧x.2.k=x.1) (fun x=>X.length-x.1) (0,⟨[],0,0⟩) ?_ ?_
 ·refine⟨Nat.zero_le _,⟨Nat.zero_le _,Nat.le_refl _,Nat.le_refl _,fun i=>by simp⟩,rfl⟩
 rintro L2 hL2 ⟨j,s⟩ ⟨hj,hin,hk⟩ ih
 simp only at hj hin hk ih⊢
 have hsn:=hin.many
 have hless:=hin.less
 by_cases hjl:j<X.length
 ·rw[if_pos hjl]at hin
  have hTu:=sZ T hE0 (Q[j]?.getD .none) (kM hL j) s.n qD
  have hw:=rL hE0 (kM hL j)
  obtain⟨hf1,hf2⟩:=hQf j hjl
  have hg:=hO.get j hjl
  have hnx:=fun h=>hO.next j h
  generalize r7 T (Q[j]?.getD .none)=w at hTu hw
  cases hB:r6 T (Q[j]?.getD .none)with
  |false=>
   rw[hB]at hTu
   simp only[Bool.false_eq_true,if_false]at hTu
   repeat' (first|refine Va ?_|(with_reducible refine aB (ht:=fun hb=>?_) (hf:=fun hb=>?_)<;>(try simp at hb))|refine Vn ?_|refine Vl (hG:=?_)|(refine Vm ([(100000,35)]) (hf:=hTu.mx) (hk:=?_);rintro _ _ ⟨⟩;refine⟨_,_,qE,qA,qA,?_⟩)|fail)
   all_goals try(exfalso;omega)
   exact Vk [0,12,13,36,37,38] [35,40000] hL2 (ih (j+1,⟨s.E,j+1,s.n⟩) ⟨qI,⟨Ord.up hin.ord (by simp only;split;exact Nat.le_trans hg.2.1 (hnx qN);omega),hin.less,qI,hin.new⟩,rfl⟩ qI)
  |true=>
   rw[hB]at hTu
   simp only[if_true]at hTu
   repeat' (first|refine Va ?_|(with_reducible refine aB (ht:=fun hb=>?_) (hf:=fun hb=>?_)<;>(try simp at hb))|refine Vn ?_|refine Vl (hG:=?_)|(refine Vm ([(100000,35)]) (hf:=hTu.mx) (hk:=?_);rintro _ _ ⟨⟩;refine⟨_,_,qE,qA,qA,?_⟩)|fail)
   all_goals try(exfalso;omega)
   exact Vk [0,12,13,36,37,38] [35,40000] hL2 (ih (j+1,⟨s.E++[⟨(X[j]?.getD (0,0)).1,(X[j]?.getD (0,0)).2,w⟩],j+1,s.n+1⟩) ⟨qI,(hin.push (Nat.le_refl _) hg.2.1 qD qD qD).up (by simp only;split;exact hnx qN;omega),rfl⟩ qI) (he:=by simp[hf1,hf2])
 ·rw[if_neg hjl]at hin
  have hAp:=Ht p s.E hpl (by have:=hin.less;omega) hin.ord hin.new
  repeat' (first|refine Va ?_|(with_reducible refine aB (ht:=fun hb=>?_) (hf:=fun hb=>?_)<;>(try simp at hb))|refine Vn ?_|refine Vl (hG:=?_)|fail)
  all_goals try(exfalso;omega)
  refine Vsw 40000 ?_
  by_cases hb2:200000<(Jf p s.E).length
  ·rw[if_pos hb2]at hAp
   repeat' (first|refine Va ?_|(with_reducible refine aB (ht:=fun hb=>?_) (hf:=fun hb=>?_)<;>(try simp at hb))|refine Vn ?_|refine Vl (hG:=?_)|refine Vc (hf:=by exact hAp) (h:=?_)|fail)
   exact .inl ⟨_,rfl⟩
  ·rw[if_neg hb2]at hAp
   repeat' (first|refine Va ?_|(with_reducible refine aB (ht:=fun hb=>?_) (hf:=fun hb=>?_)<;>(try simp at hb))|refine Vn ?_|refine Vl (hG:=?_)|refine Vc (hf:=by exact hAp) (h:=?_)|fail)
   refine Vb ?_
   repeat' (first|refine Va ?_|(with_reducible refine aB (ht:=fun hb=>?_) (hf:=fun hb=>?_)<;>(try simp at hb))|refine Vn ?_|refine Vl (hG:=?_)|fail)
   exact .inr ⟨_,_,rfl⟩
theorem u7 (s:Sto) (hs:s.Fit):aV Tryz.prog 11 [s.d] (IsF fun e=>e=0→ ∃L,rV s L):=by
 refine bI Tryz.func11 rfl qC Tryz.ntmps11 _ rfl qE ?_
 repeat' (first|refine Va ?_|(with_reducible refine aB (ht:=fun hb=>?_) (hf:=fun hb=>?_)<;>(try simp at hb))|refine Vn ?_|refine Vl (hG:=?_)|(refine Ve (hf:=Nt s hs) (hk:=?_);rintro _ (⟨e,rfl,he⟩|⟨L,rfl,hL⟩))|fail)
 ·exact⟨_,rfl,fun h=>absurd h he⟩
 ·exact⟨_,rfl,fun _=>⟨L,hL⟩⟩
theorem Er (s:Sto) (hs:s.Fit) (key:Bs) (hk:key.length≤9223372036854775807) (t dr:Int):aV Tryz.prog 12 [s.d,str key,int t,int dr,int 20] (Sd s (Mom t)):=by
 refine bI Tryz.func12 rfl qC Tryz.ntmps12 _ rfl qE ?_
 repeat' (first|refine Va ?_|(with_reducible refine aB (ht:=fun hb=>?_) (hf:=fun hb=>?_)<;>(try simp at hb))|refine Vn ?_|refine Vl (hG:=?_)|(refine Ve (hf:=VK s hs key hk t dr) (hk:=?_);rintro _ (⟨e,rfl,he⟩|⟨L,rfl,hL,hM⟩))|(refine Ve (hf:=uK key hk) (hk:=?_);rintro _ ⟨a,e2,rfl,hF,_⟩)|fail)
 all_goals try contradiction
 ·exact .inl ⟨_,rfl,qN⟩
 ·exact .inl ⟨_,rfl,qD⟩
 ·exact .inr ⟨L,rfl,hL,hM⟩
structure Vw where
 found:Bool
 L4:List Bs
 e:En
 n:Nat
 g:Nat→UInt8
 parts:List Frg
 Jk:Int
abbrev vwC (f:Bool) (h:D) (e:En) (b p:D) (t:Int):D:= .agg [tru f,h,str e.key,int e.time,int e.status,str e.type,str e.pG,str e.file,int e.fr,int e.til,tru e.same,b,p,int t]
abbrev Vw.d (v:Vw):D:=vwC v.found (ksD v.L4) v.e (byF v.n v.g) (Hn v.parts) v.Jk
theorem Hu (f:Bool) {h h':D} (e:En) {b b' p p':D} (t:Int) (h1:cJ h h') (h2:cJ b b') (h3:cJ p p'):cJ (vwC f h e b p t) (vwC f h' e b' p' t):=by
 refine mK rfl fun k x hk=>?_
 rcases k with _|_|_|_|_|_|_|_|_|_|_|_|_|_|k
 all_goals first|(cases hk;exact⟨_,rfl,h1⟩)|(cases hk;exact⟨_,rfl,h2⟩)|(cases hk;exact⟨_,rfl,h3⟩)|(cases hk;exact⟨_,rfl,cJ.refl _⟩)|(simp at hk)
def Tx (s:Sto) (key:Bs) (d:D):Prop:= ∃(v:Vw) (e:Int),d= .tup [v.d,int e]∧v.L4.length≤21∧v.parts.length≤5000∧(e≠0→v.found=false)∧(v.found=false→v.n=0)∧(v.found=true→ ∃j,j<s.ne∧(s.en j).key=key)
abbrev noS:D:= .lit (.slice none 0 0)
def Sr (s:Sto) (key:Bs) (d:D):Prop:= ∃(f:Bool) (h:D) (e:En) (b p:D) (t c:Int),d= .tup [vwC f h e b p t,int c]∧(h=noS∨ ∃K:List Bs,h=ksD K∧K.length≤21)∧(b=noS∨ ∃n g,b=byF n g)∧(p=noS∨ ∃O:List Frg,p=Hn O∧O.length≤5000)∧(c≠0→f=false)∧(f=false→b=noS)∧(f=true→ ∃j,j<s.ne∧(s.en j).key=key)
theorem RH {s:Sto} {key:Bs} (d:D) (h:Sr s key d): ∃d',cJ d d'∧Tx s key d':=by
 obtain⟨f,h,e,b,p,t,c,rfl,h1,h2,h3,h4,h5,h6⟩:=h
 obtain⟨K,h1,hK⟩: ∃K:List Bs,cJ h (ksD K)∧K.length≤21:=by
  rcases h1 with rfl|⟨K,rfl,h⟩
  ·exact⟨[],bY _,qE⟩
  ·exact⟨K,cJ.refl _,h⟩
 obtain⟨O,h3,hO⟩: ∃O:List Frg,cJ p (Hn O)∧O.length≤5000:=by
  rcases h3 with rfl|⟨K,rfl,h⟩
  ·exact⟨[],bY _,qE⟩
  ·exact⟨K,cJ.refl _,h⟩
 obtain⟨n,g,hb,hn⟩: ∃n g,cJ b (byF n g)∧(b=noS→n=0):=by
  rcases h2 with rfl|⟨n,g,rfl⟩
  ·exact⟨0,fun _=>0,bY _,fun _=>rfl⟩
  ·exact⟨n,g,cJ.refl _,fun h=>by cases h⟩
 exact⟨_,eZ (Hu f e t h1 hb h3),⟨f,K,e,n,g,O,t⟩,c,rfl,hK,hO,h4,fun h=>hn (h5 h),h6⟩
theorem Ow (s:Sto) (hs:s.Fit) (hR:pR s) (l:Bs) (hl:l.length≤9223372036854775807) (key:Bs) (hk:key.length≤9223372036854775807) (t dr:Int):aV Tryz.prog 6 [s.d,str l,str key,int t,int dr] (Tx s key):=by
 refine aV.mono (G:=Sr s key) (bI Tryz.func6 rfl qC Tryz.ntmps6 _ rfl qE ?_) RH
 repeat' (first|refine Va ?_|(with_reducible refine aB (ht:=fun hb=>?_) (hf:=fun hb=>?_)<;>(try simp at hb))|refine Vn ?_|refine Vl (hG:=?_)|(refine Ve (hf:=Hk l hl) (hk:=?_);rintro _ ⟨b,rfl,_⟩)|(refine Ve (hf:=u7 s hs) (hk:=?_);rintro _ ⟨e1,rfl,_⟩)|(refine Ve (hf:=Er s hs key hk t dr) (hk:=?_);rintro _ (⟨e,rfl,he⟩|⟨L,rfl,hL,hM⟩))|fail)
 all_goals try contradiction
 all_goals try(exact⟨_,_,⟨[],0,0,[],[],[],0,0,false⟩,_,_,_,_,rfl,.inl rfl,.inl rfl,.inl rfl,fun _=>rfl,fun _=>rfl,qE⟩)
 repeat' (first|refine Va ?_|(with_reducible refine aB (ht:=fun hb=>?_) (hf:=fun hb=>?_)<;>(try simp at hb))|refine Vn ?_|refine Vl (hG:=?_)|(refine Ve (hf:=Rh s hs hR L hL key hk t dr hM) (hk:=?_);rintro _ ⟨K,hK,(rfl|⟨i,hi,rfl,hj⟩)⟩)|fail)
 all_goals try contradiction
 all_goals try(exact⟨_,_,⟨[],0,0,[],[],[],0,0,false⟩,_,_,_,_,rfl,.inr ⟨_,rfl,hK⟩,.inl rfl,.inl rfl,fun _=>rfl,fun _=>rfl,qE⟩)
 have hE:=hL.en i hi
 repeat' (first|refine Va ?_|(with_reducible refine aB (ht:=fun hb=>?_) (hf:=fun hb=>?_)<;>(try simp at hb))|refine Vn ?_|refine Vl (hG:=?_)|(refine Ve (hf:=ID s L hL i hi) (hk:=?_);rintro _ ⟨_,e2,rfl,st,rs,M,n2,g2,rfl,hrs,hM2,h3⟩)|fail)
 ·exact⟨_,_,s.en i,_,_,_,_,rfl,.inr ⟨_,rfl,hK⟩,.inl rfl,.inl rfl,fun h=>absurd rfl h,(fun h=>by cases h),fun _=>hj⟩
 repeat' (first|refine Va ?_|(with_reducible refine aB (ht:=fun hb=>?_) (hf:=fun hb=>?_)<;>(try simp at hb))|refine Vn ?_|refine Vl (hG:=?_)|refine Vc (hf:=by exact wA n2 g2 qD) (h:=?_)|(refine Ve (hf:=Oj st rs M n2 g2 hM2 qD (s.en i).key (by have:=hE.key.2.1;omega)) (hk:=?_);rintro _ ⟨m,ok,rfl,hm,hF⟩)|fail)
 ·exact⟨_,_,s.en i,_,_,_,_,rfl,.inr ⟨_,rfl,hK⟩,.inr ⟨_,_,rfl⟩,.inl rfl,fun h=>absurd rfl h,(fun h=>by cases h),fun _=>hj⟩
 repeat' (first|refine Va ?_|(with_reducible refine aB (ht:=fun hb=>?_) (hf:=fun hb=>?_)<;>(try simp at hb))|refine Vn ?_|refine Vl (hG:=?_)|(refine Ve (hf:=RE s hs hR L hL m hm hF l hl (s.en i).time dr hE.time) (hk:=?_);rintro _ ⟨T,rfl,hT,hTl⟩)|fail)
 ·exact⟨_,_,s.en i,_,_,_,_,rfl,.inr ⟨_,rfl,hK⟩,.inr ⟨_,_,rfl⟩,.inl rfl,fun h=>absurd rfl h,(fun h=>by cases h),fun _=>hj⟩
 have hTf:zC T:=fun q=>by
  by_cases hq:q<T.length
  ·have:=hTl _ (List.getElem_mem hq)
   simp only[bL,List.getElem?_eq_getElem hq,Option.getD_some]
   omega
  ·simp[bL,List.getElem?_eq_none (by omega:T.length≤q)]
 repeat' (first|refine Va ?_|(with_reducible refine aB (ht:=fun hb=>?_) (hf:=fun hb=>?_)<;>(try simp at hb))|refine Vn ?_|refine Vl (hG:=?_)|(refine Ve (hf:=uK (s.en i).key (by have:=hE.key.2.1;omega)) (hk:=?_);rintro _ ⟨a,e3,rfl,hFa,_⟩)|(refine Ve (hf:=Hl st rs M n2 g2 hM2) (hk:=?_);rintro _ ⟨md,rfl⟩)|fail)
 all_goals
  repeat' (first|refine Va ?_|(with_reducible refine aB (ht:=fun hb=>?_) (hf:=fun hb=>?_)<;>(try simp at hb))|refine Vn ?_|refine Vl (hG:=?_)|(refine Ve (hf:=Jj n2 g2 a T qD hFa hTf) (hk:=?_);rintro _ ⟨n4,g4,k4,e4,rfl⟩)|(refine Ve (hf:=L3 n2 g2 a T qD hFa hTf) (hk:=?_);rintro _ ⟨n4,g4,k4,e4,rfl⟩)|(refine Ve (hf:=Rz s hs hR L hL m hm hF (s.en i).time dr hE.time) (hk:=?_);rintro _ ⟨O,rfl,hO⟩)|fail)
  ·exact⟨_,_,s.en i,_,_,_,_,rfl,.inr ⟨_,rfl,hK⟩,.inr ⟨_,_,rfl⟩,.inl rfl,fun h=>absurd rfl h,(fun h=>by cases h),fun _=>hj⟩
  ·exact⟨_,_,s.en i,_,_,_,_,rfl,.inr ⟨_,rfl,hK⟩,.inr ⟨_,_,rfl⟩,.inr ⟨_,rfl,hO⟩,fun h=>absurd rfl h,(fun h=>by cases h),fun _=>hj⟩
set_option maxHeartbeats 4000000
abbrev s7:D:= .lit (.slice none 0 0)
abbrev yD (pre:Bs) (en:Int):List D:=[str [110,111],str pre,int 0,int 253402300800,int 0,int en,int 0,int 4,str []]
abbrev u9 (pre:Bs) (en:Int):D:= .sl 1 fun _=>yD pre en
abbrev BQ (k:Bs) (t:Int):D:= .agg [str k,int t]
abbrev Hv:D:= .agg [str [97,110,110],tru true]
def Cap (k:Bs) (t:Int):Prop:=1≤k.length∧k.length≤2000∧(∀c∈k,33≤c.toNat∧c.toNat≤126)∧0≤t∧t≤253402300799
theorem Bk (l:Bs) (hl:l.length≤9223372036854775807):aV Tryz.prog 199 [str l] (IsB fun b=>(l.length≤2000∧ ∀c∈l,33≤c.toNat∧c.toNat≤126)→b=true):=by
 refine bI Tryz.func199 rfl qC Tryz.ntmps199 _ rfl qE ?_
 repeat' (first|refine Va ?_|(with_reducible refine aB (ht:=fun hb=>?_) (hf:=fun hb=>?_)<;>(try simp at hb))|refine Vb ?_|refine Vl (hG:=?_)|fail)
 refine vU [0,5,6] [] 6 l.length ?_
 intro L hL j hj ih
 by_cases hjn:j<l.length
 ·repeat' (first|refine Va ?_|(with_reducible refine aB (ht:=fun hb=>?_) (hf:=fun hb=>?_)<;>(try simp at hb))|refine Vb ?_|refine Vl (hG:=?_)|fail)
  all_goals try(exfalso;omega)
  ·refine⟨_,rfl,fun h=>?_⟩
   have:=h.2 _ (List.getElem_mem hjn)
   simp[List.getElem?_eq_getElem hjn]at hb
   omega
  ·exact Vk [0,5,6] [] hL (ih (j+1) qD qD)
 ·repeat' (first|refine Va ?_|(with_reducible refine aB (ht:=fun hb=>?_) (hf:=fun hb=>?_)<;>(try simp at hb))|refine Vb ?_|refine Vl (hG:=?_)|fail)
  all_goals try(exfalso;omega)
  exact⟨_,rfl,fun h=>by simp;omega⟩
theorem Jl (n a b:Int):aJ Tryz.prog 359 [int n,int a,int b] (tru (decide (a≤n∧n≤b))):=by
 refine aW Tryz.func359 rfl qC Tryz.ntmps359 _ rfl qE fun C hc=>?_
 repeat' (first|refine Wd ?_|(refine Wc ?_ ?_<;>intro hb<;>try simp at hb)|refine Wo ?_|fail)
 (refine Zl hc (hr:=?_))
 refine bT ?_
 rw[Bool.eq_iff_iff];simp
theorem Ox (pre:Bs) (en:Int):aJ Tryz.prog 289 [.agg (yD pre en)] (int 0):=by
 refine aW Tryz.func289 rfl qC Tryz.ntmps289 _ rfl qE fun C hc=>?_
 repeat' (first|refine Wd ?_|(refine Wc ?_ ?_<;>intro hb<;>try simp at hb)|refine Wo ?_|fail)
 (refine Zl hc (hr:=?_))
 simp
theorem L5 (pre k:Bs) (en t:Int) (ht:0≤t∧t≤253402300799):aJ Tryz.prog 288 [.agg (yD pre en),BQ k t] (tru (pre.isPrefixOf k)):=by
 have hP:=aS k pre
 generalize pre.isPrefixOf k=b at hP
 refine aW Tryz.func288 rfl qC Tryz.ntmps288 _ rfl qE fun C hc=>?_
 repeat' (first|refine Wd ?_|(refine Wc ?_ ?_<;>intro hb<;>try simp at hb)|refine Zw hc (hf:=by exact hP) (hk:=?_)|refine Zq hc (hf:=by exact hP) (hk:=?_)|refine Wo ?_|fail)
 (refine Zl hc (hr:=?_))
 have h1:decide (0≤t)=true:=by simpa using ht.1
 have h2:decide (t<253402300800)=true:=by simp;omega
 simp[h1,h2]
theorem Es (pre k:Bs) (en t at':Int) (ht:0≤t∧t≤253402300799) (ha:0≤at'):aJ Tryz.prog 201 [.agg (yD pre en),BQ k t,int at'] (tru (pre.isPrefixOf k&&decide (at'<en))):=by
 have h1:=L5 pre k en t ht
 have h2:=Ox pre en
 generalize pre.isPrefixOf k=b at h1⊢
 refine aW Tryz.func201 rfl qC Tryz.ntmps201 _ rfl qE fun C hc=>?_
 repeat' (first|refine Wd ?_|(refine Wc ?_ ?_<;>intro hb<;>try simp at hb)|refine Zw hc (hf:=QE) (hk:=?_)|refine Zq hc (hf:=QE) (hk:=?_)|refine Wo ?_|fail)
 all_goals(refine Zl hc (hr:=?_))
 all_goals simp[ha]
@[simp] theorem VW (z:D) (k:Key):dT z [] k=z:=rfl
theorem Hw (pre k:Bs) (en t at':Int) (b:Bool) (h:aJ Tryz.prog 201 [.agg (yD pre en),BQ k t,int at'] (tru b)):aJ Tryz.prog 129 [u9 pre en,BQ k t,int at'] (int (if b then 0 else-1)):=by
 refine aW Tryz.func129 rfl qC Tryz.ntmps129 _ rfl qE fun C hc=>?_
 repeat' (first|refine Wd ?_|(refine Wc ?_ ?_<;>intro hb<;>try simp at hb)|refine Wn ?_|fail)
 refine aN (fun x:Nat×Int=>⟨[(0,.d (u9 pre en)),(2,.d (int at')),(4,.bp 4 0),(7,.d (int x.2)),(10,.d (u9 pre en)),(11,.d (int 1)),(12,.d (int x.1))],[(4,.box 87 [.d (str k),.d (int t)])]⟩) (fun x=>(x.1=0∧x.2= -1)∨(x.1=1∧x.2=if b then 0 else-1)) (fun x=>1-x.1) (0,-1) qE (aC [0,2,4,7,10,11,12] [4] qA qA qE) ?_
 rintro⟨i,v⟩ hI
 simp only at hI
 rcases hI with⟨rfl,rfl⟩|⟨rfl,rfl⟩
 ·cases b
  all_goals
   repeat' (first|refine Wd ?_|(refine Wc ?_ ?_<;>intro hb<;>try simp at hb)|refine cP hc qA qA qA qA qA (fun _=>by first|exact h|exact(show aJ _ _ _ (int 0)from by exfalso;simp_all;done)) qE qE ?_|refine cW hc qA qA qA qA qA (fun _=>by first|exact h|exact(show aJ _ _ _ (int 0)from by exfalso;simp_all;done)) qE qE ?_|refine fX hc qQ qK qG ?_|refine dK hc qQ qK qG ?_|refine cH hc Qh qG ?_|refine dM hc qC qK qC Qh qG ?_|fail)
   all_goals try contradiction
   refine⟨(1,_),.inr ⟨rfl,rfl⟩,qE,aC [0,2,4,7,10,11,12] [4] qA qA qE⟩
 ·repeat' (first|refine Wd ?_|(refine Wc ?_ ?_<;>intro hb<;>try simp at hb)|refine Wn ?_|fail)
  all_goals try contradiction
  (refine Zl hc (hr:=?_))
  simp
theorem BR:aV Tryz.prog 195 [s7] (IsF fun e=>e=0):=by
 refine bI Tryz.func195 rfl qC Tryz.ntmps195 _ rfl qE ?_
 repeat' (first|refine Va ?_|(with_reducible refine aB (ht:=fun hb=>?_) (hf:=fun hb=>?_)<;>(try simp at hb))|refine Vn ?_|refine Vl (hG:=?_)|fail)
 refine vU [1,2,13,14,15] [1] 15 0 ?_
 intro L hL j hj _
 obtain rfl:j=0:=by omega
 repeat' (first|refine Va ?_|(with_reducible refine aB (ht:=fun hb=>?_) (hf:=fun hb=>?_)<;>(try simp at hb))|refine Vn ?_|refine Vl (hG:=?_)|fail)
 all_goals try contradiction
 refine vU [1,2,63,64,65] [1] 65 0 ?_
 intro L hL j hj _
 obtain rfl:j=0:=by omega
 repeat' (first|refine Va ?_|(with_reducible refine aB (ht:=fun hb=>?_) (hf:=fun hb=>?_)<;>(try simp at hb))|refine Vn ?_|refine Vl (hG:=?_)|fail)
 all_goals try contradiction
 refine vU [1,2,74,75,76] [1] 76 0 ?_
 intro L hL j hj _
 obtain rfl:j=0:=by omega
 repeat' (first|refine Va ?_|(with_reducible refine aB (ht:=fun hb=>?_) (hf:=fun hb=>?_)<;>(try simp at hb))|refine Vn ?_|refine Vl (hG:=?_)|fail)
 all_goals try contradiction
 exact⟨_,rfl,rfl⟩
theorem Et (pre:Bs) (en:Int):aV Tryz.prog 331 [.agg (yD pre en)] (IsF fun _=>True):=by
 refine bI Tryz.func331 rfl qC Tryz.ntmps331 _ rfl qE ?_
 repeat' (first|refine Va ?_|(with_reducible refine aB (ht:=fun hb=>?_) (hf:=fun hb=>?_)<;>(try simp at hb))|refine Vn ?_|refine Vl (hG:=?_)|refine Vc (hf:=qaS) (h:=?_)|refine Vc (hf:=by exact Jl _ _ _) (h:=?_)|refine Vx (h:=?_)|fail)
 all_goals try contradiction
 all_goals exact⟨_,rfl,trivial⟩
theorem BS (pre:Bs) (en:Int) (hp:pre.length≤9223372036854775807):aV Tryz.prog 285 [.agg (yD pre en)] (IsF fun _=>True):=by
 refine bI Tryz.func285 rfl qC Tryz.ntmps285 _ rfl qE ?_
 repeat' (first|refine Va ?_|(with_reducible refine aB (ht:=fun hb=>?_) (hf:=fun hb=>?_)<;>(try simp at hb))|refine Vn ?_|refine Vl (hG:=?_)|(refine Ve (hf:=mS _ qE) (hk:=?_);rintro _ ⟨n,rfl,hn⟩)|(refine Ve (hf:=Bk _ hp) (hk:=?_);rintro _ ⟨b,rfl,_⟩)|(refine Ve (hf:=Et pre en) (hk:=?_);rintro _ ⟨e,rfl,_⟩)|fail)
 all_goals exact⟨_,rfl,trivial⟩
theorem Eu (pre:Bs) (en:Int) (hp:pre.length≤9223372036854775807) (clo:D):aV Tryz.prog 196 [u9 pre en,clo] (IsF fun _=>True):=by
 refine bI Tryz.func196 rfl qC Tryz.ntmps196 _ rfl qE ?_
 repeat' (first|refine Va ?_|(with_reducible refine aB (ht:=fun hb=>?_) (hf:=fun hb=>?_)<;>(try simp at hb))|refine Vn ?_|refine Vl (hG:=?_)|fail)
 all_goals try contradiction
 refine dP [] [0,1,4,5,13,14,15] [12] (fun x:Nat×List (Key×D)=>[(15,.d (int x.1))]) (fun x=>[(12,.cB 0 x.2)]) (fun x=>x.1≤1∧(x.1=0→x.2=[])) (fun x=>1-x.1) (0,[]) qE ?_
 rintro L hL ⟨i,M⟩ ⟨hi,hM⟩ ih
 simp only at hi hM ih⊢
 rcases Nat.lt_or_ge 0 i with h|h
 ·obtain rfl:i=1:=by omega
  repeat' (first|refine Va ?_|(with_reducible refine aB (ht:=fun hb=>?_) (hf:=fun hb=>?_)<;>(try simp at hb))|refine Vn ?_|refine Vl (hG:=?_)|fail)
  all_goals try contradiction
  exact⟨_,rfl,trivial⟩
 ·obtain rfl:i=0:=by omega
  obtain rfl:=hM rfl
  repeat' (first|refine Va ?_|(with_reducible refine aB (ht:=fun hb=>?_) (hf:=fun hb=>?_)<;>(try simp at hb))|refine Vn ?_|refine Vl (hG:=?_)|(refine Ve (hf:=mS _ qE) (hk:=?_);rintro _ ⟨n,rfl,hn⟩)|(refine Ve (hf:=BS pre en hp) (hk:=?_);rintro _ ⟨e,rfl,_⟩)|refine Vx (h:=?_)|fail)
  all_goals try contradiction
  all_goals first|exact⟨_,rfl,trivial⟩|exact Vk [0,1,4,5,13,14,15] [12] hL (ih (1,gB [] (Key.s [110,111]) (.lit (.bool true))) qE qE)
theorem Bl (pre:Bs) (en:Int) (hp:pre.length≤9223372036854775807):aV Tryz.prog 126 [s7,u9 pre en] (IsF fun _=>True):=by
 refine bI Tryz.func126 rfl qC Tryz.ntmps126 _ rfl qE ?_
 repeat' (first|refine Va ?_|(with_reducible refine aB (ht:=fun hb=>?_) (hf:=fun hb=>?_)<;>(try simp at hb))|refine Vn ?_|refine Vl (hG:=?_)|(refine Ve (hf:=BR) (hk:=?_);rintro _ ⟨e,rfl,rfl⟩)|(refine Vf (hf:=Eu pre en hp _) (hfl:=?_) (hk:=?_)<;>rintro _ ⟨e,rfl,_⟩;(·rfl))|fail)
 all_goals try contradiction
 exact⟨_,rfl,trivial⟩
theorem Hy (k:Bs) (t:Int) (h:Cap k t):aV Tryz.prog 127 [BQ k t] (IsF fun e=>e=0):=by
 obtain⟨h1,h2,h3,h4,h5⟩:=h
 refine bI Tryz.func127 rfl qC Tryz.ntmps127 _ rfl qE ?_
 have hk: ¬k=[]:=fun e=>by subst e;simp at h1
 repeat' (first|refine Va ?_|(with_reducible refine aB (ht:=fun hb=>?_) (hf:=fun hb=>?_)<;>(try simp at hb))|refine Vn ?_|refine Vl (hG:=?_)|(refine Ve (hf:=Bk k qD) (hk:=?_);rintro _ ⟨b,rfl,hb1⟩)|refine Vc (hf:=qaS) (h:=?_)|fail)
 ·have:=hb1 ⟨h2,h3⟩
  exfalso
  simp_all
 ·exfalso
  omega
 ·exact⟨_,rfl,rfl⟩
theorem Ty:aV Tryz.prog 59 [s7,Hv] (fun d=>d= .agg [tru true,s7]):=by
 refine bI Tryz.func59 rfl qC Tryz.ntmps59 _ rfl qE ?_
 repeat' (first|refine Va ?_|(with_reducible refine aB (ht:=fun hb=>?_) (hf:=fun hb=>?_)<;>(try simp at hb))|refine Vn ?_|refine Vl (hG:=?_)|fail)
 refine vU [3,4,5,11,12,13] [3,4,5] 13 0 ?_
 intro L hL j hj _
 obtain rfl:j=0:=by omega
 repeat' (first|refine Va ?_|(with_reducible refine aB (ht:=fun hb=>?_) (hf:=fun hb=>?_)<;>(try simp at hb))|refine Vn ?_|refine Vl (hG:=?_)|fail)
 all_goals try contradiction
 rfl
theorem Oy:aV Tryz.prog 37 [s7,str []] (IsB fun b=>b=false):=
 aV.args (m:=[cE [],str []]) ⟨_,⟨_,rfl,qE⟩,iN [] [] qE⟩ rfl fun i e hi=>by
  match i,hi with
  |0,hi=>cases hi;exact⟨_,rfl,bY _⟩
  |1,hi=>cases hi;exact⟨_,rfl,cJ.refl _⟩
theorem Tz (pre k:Bs) (en t at':Int) (b:Bool) (h:aJ Tryz.prog 201 [.agg (yD pre en),BQ k t,int at'] (tru b)):aV Tryz.prog 60 [.agg [tru true,s7],u9 pre en,BQ k t,int at'] (IsB fun c=>c= !b):=by
 have hR:=Hw pre k en t at' b h
 obtain⟨_,⟨c,rfl,rfl⟩,hC⟩:=Oy
 refine bI Tryz.func60 rfl qC Tryz.ntmps60 _ rfl qE ?_
 cases b
 ·repeat' (first|refine Va ?_|(with_reducible refine aB (ht:=fun hb=>?_) (hf:=fun hb=>?_)<;>(try simp at hb))|refine Vn ?_|refine Vl (hG:=?_)|refine Vc (hf:=qaV) (h:=?_)|fail)
  all_goals try contradiction
  exact⟨_,rfl,rfl⟩
 ·repeat' (first|refine Va ?_|(with_reducible refine aB (ht:=fun hb=>?_) (hf:=fun hb=>?_)<;>(try simp at hb))|refine Vb ?_|refine Vl (hG:=?_)|refine Vc (hf:=qaV) (h:=?_)|refine Vd (hf:=qV) (h:=?_)|fail)
  all_goals try contradiction
  exact⟨_,rfl,rfl⟩
theorem L6 (pre:Bs) (en at':Int) (hp:pre.length≤9223372036854775807): ∃f0:Int,(f0=0→0≤at')∧ ∀(k:Bs) (t:Int),Cap k t→ ∃b:Bool,aJ Tryz.prog 26 [s7,u9 pre en,Hv,BQ k t,int at'] (.tup [tru b,int f0])∧(f0=0→b= !(pre.isPrefixOf k&&decide (at'<en))):=by
 obtain⟨_,⟨e0,rfl,_⟩,hC⟩:=Bl pre en hp
 obtain⟨_,⟨nm,rfl,_⟩,hN⟩:=mS [97,110,110] qE
 obtain⟨_,rfl,hE⟩:=Ty
 have hM:=dJ at'
 have hA: ∃f1:Int,∀(k:Bs) (t:Int),Cap k t→aJ Tryz.prog 57 [s7,u9 pre en,Hv,BQ k t] (int f1):=by
  refine⟨if e0=0 then(if nm=true then 0 else 5)else e0,fun k t hk=>?_⟩
  obtain⟨_,⟨e1,rfl,rfl⟩,hQ⟩:=Hy k t hk
  refine aW Tryz.func57 rfl qC Tryz.ntmps57 _ rfl qE fun C hc=>?_
  by_cases h0:e0=0
  ·subst h0
   cases nm
   all_goals
    repeat' (first|refine Wd ?_|(refine Wc ?_ ?_<;>intro hb<;>try simp at hb)|refine Zw hc (hf:=QO) (hk:=?_)|refine Zq hc (hf:=QO) (hk:=?_)|refine Wn ?_|fail)
    all_goals try contradiction
    (refine Zl hc (hr:=?_))
    simp
  ·repeat' (first|refine Wd ?_|(refine Wc ?_ ?_<;>intro hb<;>try simp at hb)|refine Zw hc (hf:=QO) (hk:=?_)|refine Zq hc (hf:=QO) (hk:=?_)|refine Wn ?_|fail)
   all_goals try contradiction
   rw[if_neg h0]
   (refine Zl hc (hr:=?_))
   simp
 obtain⟨f1,hA⟩:=hA
 refine⟨if f1=0 then(if 0≤at'∧at'≤253402300799 then 0 else 1)else f1,?_,fun k t hk=>?_⟩
 ·split
  ·split
   ·intro _;omega
   ·intro h;cases h
  ·intro h;contradiction
 ·have hA:=hA k t hk
  by_cases h1:f1=0
  ·subst h1
   by_cases h2:0≤at'∧at'≤253402300799
   ·obtain⟨_,⟨b,rfl,hb⟩,hY⟩:=Tz pre k en t at' _ (Es pre k en t at' hk.2.2.2 h2.1)
    refine⟨b,?_,fun _=>hb⟩
    refine aW Tryz.func26 rfl qC Tryz.ntmps26 _ rfl qE fun C hc=>?_
    repeat' (first|refine Wd ?_|(refine Wc ?_ ?_<;>intro hb<;>try simp at hb)|refine Zw hc (hf:=by first|exact hA|exact hM|exact hE|exact hY) (hk:=?_)|refine Zq hc (hf:=by first|exact hA|exact hM|exact hE|exact hY) (hk:=?_)|refine Wn ?_|fail)
    all_goals try contradiction
    all_goals try(exfalso;omega)
    rw[if_pos rfl,if_pos h2]
    (refine Zl hc (hr:=?_))
    simp
   ·refine⟨false,?_,fun h=>?_⟩
    ·refine aW Tryz.func26 rfl qC Tryz.ntmps26 _ rfl qE fun C hc=>?_
     repeat' (first|refine Wd ?_|(refine Wc ?_ ?_<;>intro hb<;>try simp at hb)|refine Zw hc (hf:=QP) (hk:=?_)|refine Zq hc (hf:=QP) (hk:=?_)|refine Wn ?_|fail)
     all_goals try contradiction
     all_goals try(exfalso;omega)
     rw[if_pos rfl,if_neg h2]
     (refine Zl hc (hr:=?_))
     simp
    ·rw[if_pos rfl,if_neg h2]at h
     cases h
  ·refine⟨false,?_,fun h=>?_⟩
   ·refine aW Tryz.func26 rfl qC Tryz.ntmps26 _ rfl qE fun C hc=>?_
    repeat' (first|refine Wd ?_|(refine Wc ?_ ?_<;>intro hb<;>try simp at hb)|refine Zw hc (hf:=QP) (hk:=?_)|refine Zq hc (hf:=QP) (hk:=?_)|refine Wn ?_|fail)
    all_goals try contradiction
    rw[if_neg h1]
    (refine Zl hc (hr:=?_))
    simp
   ·rw[if_neg h1]at h
    exact absurd h h1
set_option maxHeartbeats 8000000
abbrev En0:En:=⟨[],0,0,[],[],[],0,0,false⟩
def Bn (e:En):List D:=e.row
@[simp] theorem W1 (o:Option En):(Option.map Bn o).getD [str [],int 0,int 0,str [],str [],str [],int 0,int 0,tru false]=(o.getD En0).row:=by cases o<;>rfl
abbrev Ev (k:Nat) (E:List En):Nat×O:=(k,.own 34 9 (true,[str [],int 0,int 0,str [],str [],str [],int 0,int 0,tru false]) (E.map Bn))
def BT (E:List En) (p:En→Bool) (j:Nat):Int:=if j<E.length then(if p (E[j]?.getD En0)=true then(j:Int)else BT E p (j+1))else-1
termination_by E.length-j
theorem CP (E:List En) (p:En→Bool) (j:Nat):(BT E p j= -1∧ ∀i,j≤i→i<E.length→p (E[i]?.getD En0)=false)∨(∃i:Nat,BT E p j=i∧j≤i∧i<E.length∧p (E[i]?.getD En0)=true∧ ∀k,j≤k→k<i→p (E[k]?.getD En0)=false):=by
 rw[BT]
 split
 ·rename_i hj
  by_cases h:p (E[j]?.getD En0)=true
  ·rw[if_pos h]
   exact .inr ⟨j,rfl,Nat.le_refl _,hj,h,fun k h1 h2=>by omega⟩
  ·rw[if_neg h]
   have hf:p (E[j]?.getD En0)=false:=by simpa using h
   rcases CP E p (j+1)with⟨h1,h2⟩|⟨i,h1,h2,h3,h4,h5⟩
   ·refine .inl ⟨h1,fun i hi hl=>?_⟩
    rcases Nat.lt_or_ge j i with h6|h6
    ·exact h2 i h6 hl
    ·obtain rfl:i=j:=by omega
     exact hf
   ·refine .inr ⟨i,h1,qD,h3,h4,fun k h6 h7=>?_⟩
    rcases Nat.lt_or_ge j k with h8|h8
    ·exact h5 k h8 h7
    ·obtain rfl:k=j:=by omega
     exact hf
 ·exact .inl ⟨rfl,fun i h1 h2=>by omega⟩
termination_by E.length-j
abbrev Ew (c1 c2 c3 c4:D):V:= .d (.clo (.func 29) [c1,c2,c3,c4])
theorem RI (E:List En) (p:En→Bool) (c1 c2 c3 c4:D) (hp: ∀e∈E,aJ Tryz.prog 29 [e.d,c1,c2,c3,c4] (tru (p e))) (hl:E.length≤3000):
 bJ Tryz.prog 64 [.os 100003 E.length,Ew c1 c2 c3 c4] [Ev 100003 E] (.d (int (BT E p 0))) [Ev 100003 E]:=by
 refine cY Tryz.func64 rfl qC Tryz.ntmps64 _ rfl qE fun C hc=>?_
 repeat' (first|refine Wd ?_|(refine Wc ?_ ?_<;>intro hb<;>try simp at hb)|refine Wn ?_|fail)
 refine aN (fun j:Nat=>⟨[(0,.os 100003 E.length),(1,Ew c1 c2 c3 c4),(7,.d (int E.length)),(8,.d (int j))],[Ev 100003 E]⟩) (fun j=>j≤E.length∧BT E p 0=BT E p j) (fun j=>E.length-j) 0 qE (aG [0,1,7,8] [100003] qA qA) ?_
 rintro j ⟨hj,hA⟩
 have hst:BT E p j=if j<E.length then(if p (E[j]?.getD En0)=true then(j:Int)else BT E p (j+1))else-1:=by rw[BT]
 by_cases hlt:j<E.length
 ·have hC:=hp (E[j]?.getD En0) (by rw[List.getElem?_eq_getElem hlt];exact List.getElem_mem hlt)
  generalize p (E[j]?.getD En0)=b at hC hst
  repeat' (first|refine Wd ?_|(refine Wc ?_ ?_<;>intro hb<;>try simp at hb)|refine Zw hc (hf:=qV) (hk:=?_)|refine Zq hc (hf:=qV) (hk:=?_)|refine Wn ?_|fail)
  all_goals try contradiction
  all_goals try(exfalso;omega)
  ·rw[hA,hst,if_pos hlt,if_pos Qm]
   (refine aE [100003] hc (aR rfl) qA qA qJ ?_)
   simp
  ·exact⟨j+1,⟨qD,by rw[hA,hst,if_pos hlt,if_neg Qm]⟩,qD,aC [0,1,7,8] [100003] qA qA qE⟩
 ·repeat' (first|refine Wd ?_|(refine Wc ?_ ?_<;>intro hb<;>try simp at hb)|refine Wn ?_|fail)
  all_goals try contradiction
  all_goals try(exfalso;omega)
  rw[hA,hst,if_neg hlt]
  (refine aE [100003] hc (aR rfl) qA qA qJ ?_)
  simp
abbrev stN (E:List En) (p:En→Bool):List En:=E.filter fun e=> !p e
theorem Hz {E:List En} (p:En→Bool) {j:Nat} (hj:j<E.length):stN (E.take (j+1)) p=stN (E.take j) p++if p (E[j]?.getD En0)=true then[]else[E[j]?.getD En0]:=by
 unfold stN
 rw[List.take_succ_eq_append_getElem hj,List.filter_append]
 simp only[List.getElem?_eq_getElem hj,Option.getD_some,List.filter_cons,List.filter_nil]
 cases p E[j]<;>simp
theorem RJ (E:List En) (p:En→Bool) (c1 c2 c3 c4:D) (hp: ∀e∈E,aJ Tryz.prog 29 [e.d,c1,c2,c3,c4] (tru (p e))) (hl:E.length≤3000):
 bJ Tryz.prog 28 [.os 100003 E.length,Ew c1 c2 c3 c4] [Ev 100003 E] (.os 100003 (stN E p).length) [Ev 100003 (stN E p++List.replicate (E.length-(stN E p).length) En0)]:=by
 refine cY Tryz.func28 rfl qC Tryz.ntmps28 _ rfl qE fun C hc=>?_
 have hI:=RI E p c1 c2 c3 c4 hp hl
 rcases CP E p 0 with⟨h1,h2⟩|⟨i0,h1,_,h3,h4,h5⟩
 ·have hK:stN E p=E:=List.filter_eq_self.2 fun x hx=>by
   obtain⟨j,hj⟩:=List.mem_iff_getElem?.1 hx
   have:=h2 j (Nat.zero_le _) (List.getElem?_eq_some_iff.1 hj).1
   simpa[hj]using this
  rw[hK]
  rw[h1]at hI
  repeat' (first|refine Wd ?_|(refine Wc ?_ ?_<;>intro hb<;>try simp at hb)|((first|refine aF ([(100003,100003)]) (hI) hc qA qA qA qA qA rfl qA qA rfl qE qE qA qA ?_|fail))|refine Wn ?_|fail)
  all_goals try contradiction
  refine aE [100003] hc (aR rfl) qA qA qE qE
 ·rw[h1]at hI
  repeat' (first|refine Wd ?_|(refine Wc ?_ ?_<;>intro hb<;>try simp at hb)|((first|refine aF ([(100003,100003)]) (hI) hc qA qA qA qA qA rfl qA qA rfl qE qE qA qA ?_|fail))|refine Wn ?_|fail)
  all_goals try contradiction
  all_goals try(exfalso;omega)
  refine aN (fun x:Nat×Nat×List En=>⟨[(0,.os 100003 E.length),(1,Ew c1 c2 c3 c4),(5,.d (int x.1)),(6,.d (int x.2.1))],[Ev 100003 x.2.2]⟩)
   (fun x=>x.2.2.length=E.length∧x.1<x.2.1∧x.2.1≤E.length∧x.2.2.take x.1=stN (E.take x.2.1) p∧x.2.2.drop x.2.1=E.drop x.2.1) (fun x=>E.length-x.2.1) (i0,i0+1,E)
   ⟨rfl,qE,qI,?_,rfl⟩ (aG [0,1,5,6] [100003] qA qA) ?_
  ·simp only
   rw[Hz p h3,if_pos h4,List.append_nil]
   refine(List.filter_eq_self.2 fun x hx=>?_).symm
   obtain⟨j,hj⟩:=List.mem_iff_getElem?.1 hx
   rw[List.getElem?_take]at hj
   split at hj
   ·rename_i hji
    have:=h5 j (Nat.zero_le _) hji
    simpa[hj]using this
   ·cases hj
  rintro⟨i,j,L⟩ ⟨k1,k2,k3,k4,k5⟩
  simp only at k1 k2 k3 k4 k5⊢
  have hil:i=(stN (E.take j) p).length:=by rw[←k4];simp;omega
  by_cases hj:j<E.length
  ·have hx:L[j]?.getD En0=E[j]?.getD En0:=by
    have e:=congrArg (fun l=>l[0]?) k5
    simp only[List.getElem?_drop,Nat.add_zero]at e
    rw[e]
   have hC:=hp (L[j]?.getD En0) (by rw[hx,List.getElem?_eq_getElem hj];exact List.getElem_mem hj)
   have hnx:=Hz p hj
   have hdr: ∀M:List En,M.drop j=E.drop j→M.drop (j+1)=E.drop (j+1):=fun M e=>by
    have:=congrArg (List.drop 1) e
    simpa[List.drop_drop]using this
   rw[←hx]at hnx
   generalize hkb:p (L[j]?.getD En0)=b at hC hnx
   repeat' (first|refine Wd ?_|(refine Wc ?_ ?_<;>intro hb<;>try simp at hb)|refine Zw hc (hf:=qV) (hk:=?_)|refine Zq hc (hf:=qV) (hk:=?_)|refine Wn ?_|fail)
   all_goals try contradiction
   all_goals try(exfalso;omega)
   ·refine⟨(i+1,j+1,L.set i (L[j]?.getD En0)),⟨by simpa using k1,qI,qI,?_,?_⟩,qI,aC [0,1,5,6] [100003] qA qA (by simp[List.map_set,Bn])⟩
    ·simp only
     rw[hnx,if_neg Qm,←k4]
     rw[List.take_succ_eq_append_getElem qH,List.take_set_of_le (Nat.le_refl _)]
     simp
    ·simp only
     rw[List.drop_set_of_lt qD]
     exact hdr L k5
   ·refine⟨(i,j+1,L),⟨k1,qI,qI,?_,hdr L k5⟩,qI,aC [0,1,5,6] [100003] qA qA qE⟩
    simp only
    rw[hnx,if_pos Qm,List.append_nil,←k4]
  ·obtain rfl:j=E.length:=by omega
   rw[List.take_length]at k4 hil
   have hrow:(L.map Bn).take i=(stN E p).map Bn:=by rw[←k4,List.map_take]
   repeat' (first|refine Wd ?_|(refine Wc ?_ ?_<;>intro hb<;>try simp at hb)|refine Wn ?_|fail)
   all_goals try contradiction
   all_goals try(exfalso;omega)
   refine aE [100003] hc (aR rfl) qA qA (by simp[←hil]) ?_
   rw[←hil]
   have hz:i+(E.length-i)=L.length:=by omega
   simp[hrow,hz,Bn]
abbrev Fi0:Fi:=⟨[],0,fun _=>0⟩
def CQ (x:Fi):List D:=x.row
@[simp] theorem W2 (o:Option Fi):(Option.map CQ o).getD [str [],.sl 0 fun i=>[.lit (.int .u8 0)]]=(o.getD Fi0).row:=by cases o<;>rfl
def Oz (x:Int×Bs):List D:=[int x.1,str x.2]
@[simp] theorem W3 (o:Option (Int×Bs)):(Option.map Oz o).getD [int 0,str []]=[int (o.getD (0,[])).1,str (o.getD (0,[])).2]:=by cases o<;>rfl
abbrev VX (k:Nat) (M:List Fi):Nat×O:=(k,.own 156 2 (true,[str [],.sl 0 fun i=>[.lit (.int .u8 0)]]) (M.map CQ))
abbrev VY (k:Nat) (M:List (Int×Bs)):Nat×O:=(k,.own 159 2 (true,[int 0,str []]) (M.map Oz))
theorem bJ.row {P:Program} {f:FuncId} {args:List V} {res:V} {k:Nat} {t:TypeId} {sz:Nat} {b:Bool} {l l':List D} {es:List (List D)} (h:bJ P f args [] res [(k,.own t sz (b,l) es)]):bJ P f args [] res [(k,.own t sz (b,l') es)]:=by
 refine⟨h.1,fun ok hd w vs h1 h2 h3 h4 h5=>(h.2 ok hd w vs h1 h2 h3 h4 h5).mono fun e w' ⟨v,ok',h',he,hL⟩=>⟨v,ok',h',he,?_⟩⟩
 have key: ∀id o,Lw.look id [(k,O.own t sz (b,l') es)]=some o→id=k∧o= .own t sz (b,l') es∧Lw.look id [(k,O.own t sz (b,l) es)]=some (.own t sz (b,l) es):=fun id o ho=>by
  simp only[Lw.look]at ho⊢
  split at ho
  ·rename_i e
   cases ho
   exact⟨e.symm,rfl,by simp[e]⟩
  ·cases ho
 refine⟨hL.os,hL.tape,hL.output,hL.size,hL.block,hL.sub,hL.okb,⟨fun id o ho=>?_,fun id o b ho=>?_,fun id id' o o' b ho ho' hne=>?_⟩,fun id o b ho=>?_,hL.pin,hL.res⟩
 ·obtain⟨rfl,rfl,h6⟩:=key id o ho
  exact(show RdO w' ok' h' id (.own t sz (b,l) es)from hL.BB.obj id (.own t sz (b,l) es) h6)
 ·obtain⟨rfl,rfl,h6⟩:=key id o ho
  exact hL.BB.blk id _ b h6
 ·obtain⟨rfl,rfl,h6⟩:=key id o ho
  obtain⟨rfl,rfl,h7⟩:=key id' o' ho'
  exact absurd rfl hne
 ·obtain⟨rfl,rfl,h6⟩:=key id o ho
  exact hL.fresh id _ b h6
theorem L7 (n:Nat) (f:Nat→En) (hn:n≤1000000):bJ Tryz.prog 61 [.d (.sl n fun i=>(f i).row)] [] (.os 5 n) [Ev 5 ((List.range n).map f)]:=by
 refine cY Tryz.func61 rfl qC Tryz.ntmps61 _ rfl qE fun C hc=>?_
 repeat' (first|refine Wd ?_|(refine Wc ?_ ?_<;>intro hb<;>try simp at hb)|(refine kH hc qA qA qA qE (fun bn hbn=>?_))|refine Wo ?_|fail)
 ·obtain rfl:n=0:=hbn hb
  exact aE [5] hc (kI [(2,none,5,34,En0.row)] qA (aR rfl)) qA qA qE qE
 ·refine aE [5] hc (aR rfl) qA qA qE ?_
  simp[Bn,Function.comp_def]
theorem L8 (n:Nat) (f:Nat→Fi) (hn:n≤1000000):bJ Tryz.prog 62 [.d (.sl n fun i=>(f i).row)] [] (.os 5 n) [VX 5 ((List.range n).map f)]:=by
 refine bJ.row (l:=[str [],.lit (.slice none 0 0)]) ?_
 refine cY Tryz.func62 rfl qC Tryz.ntmps62 _ rfl qE fun C hc=>?_
 repeat' (first|refine Wd ?_|(refine Wc ?_ ?_<;>intro hb<;>try simp at hb)|(refine kH hc qA qA qA qE (fun bn hbn=>?_))|refine Wo ?_|fail)
 ·obtain rfl:n=0:=hbn hb
  exact aE [5] hc (kI [(2,none,5,156,[str [],.lit (.slice none 0 0)])] qA (aR rfl)) qA qA qE qE
 ·refine aE [5] hc (aR rfl) qA qA qE ?_
  simp[CQ,Function.comp_def]
theorem L9 (R:List (Int×Bs)) (hn:R.length≤1000000):bJ Tryz.prog 63 [.d (DF R)] [] (.os 5 R.length) [VY 5 R]:=by
 refine cY Tryz.func63 rfl qC Tryz.ntmps63 _ rfl qE fun C hc=>?_
 repeat' (first|refine Wd ?_|(refine Wc ?_ ?_<;>intro hb<;>try simp at hb)|(refine kH hc qA qA qA qE (fun bn hbn=>?_))|refine Wo ?_|fail)
 ·obtain rfl:R=[]:=List.length_eq_zero_iff.1 (hbn hb)
  exact aE [5] hc (kI [(2,none,5,159,[int 0,str []])] qA (aR rfl)) qA qA qE qE
 ·refine aE [5] hc (aR rfl) qA qA qE ?_
  simp
  apply List.ext_getElem?
  intro i
  by_cases hi:i<R.length<;>simp[hi,Oz]
theorem RL {α:Type} (g:α→List D) (M:List α) (z:α) (i:Nat) (hi:i<M.length):(M.map g).set i (g (M[i]?.getD z))=M.map g:=by
 rw[←List.map_set]
 congr 1
 apply List.ext_getElem?
 intro j
 rw[List.getElem?_set]
 split
 ·rename_i h
  subst h
  simp[hi]
 ·rfl
theorem OA (s:Sto) (L:List (Key×D)) (h:rV s L):
 bJ Tryz.prog 27 [.d s.d] [] (.fS [.os 40 s.ne,.d (.sl s.nf fun i=>(((List.range s.nf).map s.fi)[i]?.getD Fi0).row),.d (DF s.R)]) [Ev 40 ((List.range s.ne).map s.en)]:=by
 have h1:=h.ne
 have h2:=h.nf
 have h3:=h.nb
 have h4:=h.R
 have hE:=L7 s.ne s.en qD
 have hF:=L8 s.nf s.fi qD
 have hR:=L9 s.R qD
 obtain⟨E,hEe⟩: ∃E,(List.range s.ne).map s.en=E:=⟨_,rfl⟩
 obtain⟨M,hM⟩: ∃M,(List.range s.nf).map s.fi=M:=⟨_,rfl⟩
 have hMl:M.length=s.nf:=by rw[←hM];simp
 have hMb: ∀i,i<s.nf→(M[i]?.getD Fi0).nb≤500000:=fun i hi=>by
  rw[←hM]
  simpa[hi]using h3 i hi
 rw[hEe]at hE⊢
 rw[hM]at hF⊢
 refine cY Tryz.func27 rfl qC Tryz.ntmps27 _ rfl qE fun C hc=>?_
 repeat' (first|refine Wd ?_|(refine Wc ?_ ?_<;>intro hb<;>try simp at hb)|refine Wm ?_|fail)
 refine bA (aG [1,2] [1,2] qA qA) ?_
 (apply Xd 15 hc;(focus(refine Xp 0 hc (hk:=?_);refine Xp 3 hc (hk:=?_);refine Xp 6 hc (hk:=?_);refine aI 1 [1,2,5,8,9,10,11,12,13,14] hc rfl qC rfl qA qF qE qA ?_;refine Xa [2,4,7] (hx:=?_);refine⟨?_,?_,?_⟩;(focus(refine Xs ([(5,40)]) (hE) hc (hk:=?q10);refine aI 4 [4,5,8,9,10,11,12,13,14] hc rfl qC rfl qA qF qE qA ?nq10;refine Xa [5,7] (hx:=?_);refine⟨?_,?_⟩;(focus(refine Xs ([(5,41)]) (hF) hc (hk:=?q11);refine aI 7 [7,8,9,10,11,12,13,14] hc rfl qC rfl qA qF qE qA ?nq11;refine Xp 9 hc (hk:=?_);refine Xa [8] (hx:=?_);(focus(refine Xs ([(5,42)]) (hR) hc (hk:=?q12);refine Xa [10] (hx:=?nq12);(focus(refine Xw hc (hk:=?q13);refine Xp 11 hc (hk:=?nq13);refine Xa [12] (hx:=?_);(focus(refine Xw hc (hk:=?q14);refine Xp 13 hc (hk:=?nq14);refine Xa [14] (hx:=?_);(focus(refine Xw hc (hk:=?q15);refine Xz (hk:=?nq15);exact Xk [1,2] [1,2,40,41,42]))))))))));(focus(refine Xw hc (hk:=?q16);refine Xp 9 hc (hk:=?nq16);refine Xa [5] (hx:=?_);(focus(refine Xs ([(5,41)]) (hF) hc (hk:=?q17);refine Xa [8] (hx:=?nq17);(focus(refine Xs ([(5,42)]) (hR) hc (hk:=?_);exact Xq ?q12))))))));(focus(refine Xw hc (hk:=?q18);refine Xa [2,7] (hx:=?nq18);refine⟨?_,?_⟩;(focus(refine Xs ([(5,40)]) (hE) hc (hk:=?q19);refine Xa [5,7] (hx:=?nq19);refine⟨?_,?_⟩;(focus(refine Xs ([(5,41)]) (hF) hc (hk:=?_);exact Xq ?q11));(focus(refine Xw hc (hk:=?_);exact Xq ?q16))));(focus(refine Xw hc (hk:=?q110);refine Xa [2] (hx:=?nq110);(focus(refine Xs ([(5,40)]) (hE) hc (hk:=?_);exact Xq ?q16))))));(focus(refine Xw hc (hk:=?q111);refine Xa [2,4] (hx:=?nq111);refine⟨?_,?_⟩;(focus(refine Xs ([(5,40)]) (hE) hc (hk:=?q112);refine aI 4 [4,5,8,9,10,11,12,13,14] hc rfl qC rfl qA qF qE qA ?nq112;refine Xp 9 hc (hk:=?_);refine Xa [5] (hx:=?_);(focus(refine Xs ([(5,41)]) (hF) hc (hk:=?_);exact Xq ?q17))));(focus(refine Xw hc (hk:=?_);exact Xq ?q110)))))))
 repeat' (first|refine Wd ?_|(refine Wc ?_ ?_<;>intro hb<;>try simp at hb)|refine Wm ?_|fail)
 refine aN (fun i:Nat=>⟨[(1,.bp 1 0),(2,.bp 2 0),(18,.d (int s.nf)),(19,.d (int i))],[(1,.box 26 [.os 40 s.ne,.os 41 s.nf,.os 42 s.R.length]),(2,.box 26 [.d (.lit (.slice none 0 0)),.d (.lit (.slice none 0 0)),.d (.lit (.slice none 0 0))]),Ev 40 E,VX 41 M,VY 42 s.R]⟩) (fun i=>i≤s.nf) (fun i=>s.nf-i) 0 qE (aG [1,2,18,19] [1,2,40,41,42] qA qA) ?_
 intro i hi
 by_cases hin:i<s.nf
 ·have hB:=wA (M[i]?.getD Fi0).nb (M[i]?.getD Fi0).bts (by have:=hMb i hin;omega)
  have hset:(M.map CQ).set i [str (M[i]?.getD Fi0).name,byF (M[i]?.getD Fi0).nb (M[i]?.getD Fi0).bts]=M.map CQ:=RL CQ M Fi0 i qD
  repeat' (first|refine Wd ?_|(refine Wc ?_ ?_<;>intro hb<;>try simp at hb)|refine Wm ?_|fail)
  all_goals try contradiction
  all_goals try(exfalso;omega)
  refine bA (aG [1,2,3,18,19] [1,2,40,41,42] qA qA) ?_
  (apply Xd 13 hc;(focus(refine Xp 0 hc (hk:=?_);refine Xm 2 hc (hk:=?_);refine Xp 3 hc (hk:=?_);refine Xm 5 hc (hk:=?_);refine aI 4 [4,6,7,8,9,10,11,12] hc rfl qC rfl qA qF qE qA ?_;refine Xa [1,6] (hx:=?_);refine⟨?_,?_⟩;(focus(refine Xw hc (hk:=?qb50);refine Xa [6] (hx:=?nqb50);(focus(refine Xw hc (hk:=?qb51);refine Xp 7 hc (hk:=?nqb51);refine aI 8 [8,9,10,11,12] hc rfl qC rfl qA qF qE qA ?_;refine Xa [9] (hx:=?_);(focus(refine Xc hc (hf:=hB) (hk:=?qb52);refine Xa [10] (hx:=?nqb52);(focus(refine Xw hc (hk:=?qb53);refine Xp 11 hc (hk:=?nqb53);refine Xa [12] (hx:=?_);(focus(refine Xw hc (hk:=?qb54);refine Xz (hk:=?nqb54);exact Xk [1,2,18,19] [1,2,40,41,42]))))))))));(focus(refine Xw hc (hk:=?qb55);refine Xp 7 hc (hk:=?nqb55);refine aI 8 [8,9,10,11,12] hc rfl qC rfl qA qF qE qA ?_;refine Xa [1,9] (hx:=?_);refine⟨?_,?_⟩;(focus(refine Xw hc (hk:=?qb56);refine Xa [9] (hx:=?nqb56);(focus(refine Xc hc (hf:=hB) (hk:=?_);exact Xq ?qb52))));(focus(refine Xc hc (hf:=hB) (hk:=?qb57);refine aI 1 [1,10,11,12] hc rfl qC rfl qA qF qE qA ?nqb57;refine Xa [10] (hx:=?_);(focus(refine Xw hc (hk:=?_);exact Xq ?qb53)))))))))
  repeat' (first|refine Wd ?_|(refine Wc ?_ ?_<;>intro hb<;>try simp at hb)|refine Wm ?_|fail)
  exact⟨i+1,qD,qD,aC [1,2,18,19] [1,2,40,41,42] qA qA (by simp[hset])⟩
 ·obtain rfl:i=s.nf:=by omega
  repeat' (first|refine Wd ?_|(refine Wc ?_ ?_<;>intro hb<;>try simp at hb)|refine Wm ?_|fail)
  all_goals try contradiction
  all_goals try(exfalso;omega)
  refine aE [40] hc (Df 41 hc qA qD (Df 42 hc qA True.intro (aR rfl))) qA qA qE rfl
end Go.Proofs.YtdjfgcjlnfnfhaaGreatDoor
