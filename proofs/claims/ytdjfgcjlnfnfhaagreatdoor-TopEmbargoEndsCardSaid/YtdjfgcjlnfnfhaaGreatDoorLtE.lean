/- PAGE: turns: the edits of a page. (WITH run_drawN.) -/
import Derived.Test.YtdjfgcjlnfnfhaaGreatDoorLtA
import Derived.Test.YtdjfgcjlnfnfhaaGreatDoorAdA
import Derived.Test.YtdjfgcjlnfnfhaaGreatDoorMsB
import Derived.Test.YtdjfgcjlnfnfhaaGreatDoorKeyP
import Derived.Test.YtdjfgcjlnfnfhaaGreatDoorLkC
import Derived.Test.YtdjfgcjlnfnfhaaGreatDoorLwEx
set_option linter.unusedSimpArgs false
set_option linter.unusedVariables false
namespace Go.Proofs.YtdjfgcjlnfnfhaaGreatDoor
open Go.Lw Go.RowKit
set_option maxRecDepth 100000
set_option maxHeartbeats 8000000
theorem Tv (a:Adr) (ha:a.Fits):aV Tryz.prog 32 [dI a] (fun d=> ∃(n:Adr) (e:Nat),d= .tup [dI n,int e]∧n.Fits):=
 ⟨_,⟨_,_,rfl,uZ a⟩,nW kL a ha⟩
theorem LY (L:List (Key×D)):bJ Tryz.prog 48 [.mp 100000] [(100000,.cB 0 L)] (.eR (.func 105) [.bp 1 0]) [(1,.box 116 [.mp 100000]),(100000,.cB 0 L)]:=by
 refine cY Tryz.func48 rfl qC Tryz.ntmps48 _ rfl qE fun C hc=>?_
 repeat' (first|refine Wd ?_|(refine Wc ?_ ?_<;>intro hb<;>try simp at hb)|refine Wo ?_|fail)
 exact aE [1,100000] hc (aR rfl) qA qA qE qE
abbrev ssL (Q:List (Bs×Bs)):List (Key×D):=Q.map fun p=>(Key.s p.1,.lit (.string (bs p.2)))
def Bd:List (Bs×Bs)→Bs→Bs
 |[],_=>[]
 |(a,b)::r,k=>if a=k then b else Bd r k
@[simp] theorem RC: ∀(Q:List (Bs×Bs)) (k:Bs),dT (.lit (.string (bs []))) (Q.map fun p=>(Key.s p.1,.lit (.string (bs p.2)))) (.s k)= .lit (.string (bs (Bd Q k)))
  |[],k=>rfl
  |(a,b)::r,k=>by
   simp only[List.map_cons,dT,Key.s.injEq,Bd,RC r k]
   by_cases h:a=k
   ·simp[h]
   ·rw[if_neg h,if_neg h]
@[simp] theorem RD: ∀(Q:List (Bs×Bs)) (k:Bs),fL (Q.map fun p=>(Key.s p.1,.lit (.string (bs p.2)))) (.s k)=decide (k∈Q.map (·.1))
  |[],k=>rfl
  |(a,b)::r,k=>by
   simp only[List.map_cons,fL,Key.s.injEq,RD r k,List.mem_cons]
   by_cases h:a=k
   ·simp[h]
   ·rw[if_neg h,show decide (k=a∨k∈r.map (·.1))=decide (k∈r.map (·.1))from by
     rw[Bool.eq_iff_iff]
     simp only[decide_eq_true_eq]
     exact⟨fun h2=>h2.resolve_left fun e=>h e.symm,.inr⟩]
theorem Kk: ∀(Q:List (Bs×Bs)) (k v:Bs),k∉Q.map (·.1)→gB (Q.map fun p=>(Key.s p.1,.lit (.string (bs p.2)))) (.s k) (.lit (.string (bs v)))=(Q++[(k,v)]).map fun p=>(Key.s p.1,.lit (.string (bs p.2)))
 |[],k,v,_=>rfl
 |(a,b)::r,k,v,h=>by
  have h1: ¬a=k:=fun e=>h (by simp[e])
  simp only[List.map_cons,gB,Key.s.injEq,if_neg h1,List.cons_append]
  rw[Kk r k v fun e=>h (List.mem_cons_of_mem _ e)]
theorem CL {n:Nat}: ∀(Q:List (Bs×Bs)) (k:Bs),(∀p∈Q,p.2.length≤n)→(Bd Q k).length≤n
 |[],_,_=>by simp[Bd]
 |(a,b)::r,k,h=>by
  unfold Bd
  split
  ·exact h (a,b) qE
  ·exact CL r k fun p hp=>h p (List.mem_cons_of_mem _ hp)
theorem RE (s:Sto) (hs:s.Fit) (hR:pR s) (L0:List (Key×D)) (h0:rV s L0) (m:List Lnk) (hm:m.length≤5000) (hF: ∀x∈m,x.dest.Fits) (l:Bs) (hl:l.length≤9223372036854775807) (t dr:Int) (ht:Mom t):
 aV Tryz.prog 17 [AB s L0,oK m,str l,int t,int dr] (fun d=> ∃T:List Trn,d=mX T∧T.length≤5000∧ ∀x∈T,x.1.length≤2000∧x.2.length≤10000):=by
 refine bI Tryz.func17 rfl qC Tryz.ntmps17 _ rfl qE ?_
 repeat' (first|refine Va ?_|(with_reducible refine aB (ht:=fun hb=>?_) (hf:=fun hb=>?_)<;>(try simp at hb))|refine Vn ?_|refine Vl (hG:=?_)|fail)
 refine dP [] [0,2,3,4,11,30,31,32] [29] (fun x:Nat×List (Bs×Bs)=>[(32,.d (int x.1))]) (fun x=>[(29,.cB 0 (x.2.map fun p=>(Key.s p.1,.lit (.string (bs p.2)))))]) (fun x=>x.1≤m.length∧x.2.length≤x.1∧(x.2.map (·.1)).Nodup∧ ∀p∈x.2,p.1.length≤2000∧p.2.length≤10000) (fun x=>m.length-x.1) (0,[]) qE ?_
 rintro L hL ⟨j,Q⟩ ⟨hj,hQ,hnd,hlen⟩ ih
 simp only at hj hQ hnd hlen ih⊢
 repeat' (first|refine Va ?_|(with_reducible refine aB (ht:=fun hb=>?_) (hf:=fun hb=>?_)<;>(try simp at hb))|refine Vn ?_|refine Vl (hG:=?_)|(refine Ve (hf:=Tv _ (Hm hF j)) (hk:=?_);rintro _ ⟨n,e,rfl,hn⟩)|(refine Ve (hf:=Og n hn) (hk:=?_);rintro _ ⟨from',e2,rfl,hfr⟩)|fail)
 ·exact Vk [0,2,3,4,11,30,31,32] [29] hL (ih (j+1,Q) ⟨qI,qI,hnd,hlen⟩ qI)
 ·exact Vk [0,2,3,4,11,30,31,32] [29] hL (ih (j+1,Q) ⟨qI,qI,hnd,hlen⟩ qI)
 ·have hnew:from'∉Q.map (·.1):=by simpa using hb
  obtain⟨_,⟨k,e3,rfl,hk⟩,hKey⟩:=hR n hn
  refine Vb ?_
  repeat' (first|refine Va ?_|(with_reducible refine aB (ht:=fun hb=>?_) (hf:=fun hb=>?_)<;>(try simp at hb))|refine Vn ?_|refine Vl (hG:=?_)|refine Vd (hf:=by exact hKey) (h:=?_)|(refine Ve (hf:=wF s hs L0 k qD t dr ht) (hk:=?_);rintro _ (rfl|⟨i,hi,rfl,h1,h2⟩))|(refine Ve (hf:=Eg l hl _ n hn) (hk:=?_);rintro _ ⟨u,e4,rfl,hu⟩)|(refine Ve (hf:=Ts u qD) (hk:=?_);rintro _ ⟨b,rfl,hb1⟩)|fail)
  ·exact Vk [0,2,3,4,11,30,31,32] [29] hL (ih (j+1,Q) ⟨qI,qI,hnd,hlen⟩ qI)
  rotate_left
  ·exact Vk [0,2,3,4,11,30,31,32] [29] hL (ih (j+1,Q) ⟨qI,qI,hnd,hlen⟩ qI)
  all_goals
   exact Vk [0,2,3,4,11,30,31,32] [29] hL (ih (j+1,Q++[(from',u)]) ⟨qI,qH,by
    simp only[List.map_append,List.map_cons,List.map_nil]
    exact List.nodup_append.2 ⟨hnd,qE,fun x hx y hy e=>by simp at hy;subst hy;subst e;exact hnew hx⟩,fun p hp=>by
    rcases List.mem_append.1 hp with hp|hp
    ·exact hlen p hp
    ·simp at hp
     subst hp
     exact⟨hfr,hu⟩⟩ qI) (he:=by rw[Kk _ _ _ hnew];simp)
 ·have hSo:=Ei (Q.map fun p=>(Key.s p.1,.lit (.string (bs p.2)))) (Q.map (·.1)) (by simp[List.map_map,Function.comp_def]) hnd qH (fun x hx=>by
   obtain⟨p,hp,rfl⟩:=List.mem_map.1 hx
   have:=(hlen p hp).1
   unfold maxLen
   omega)
  repeat' (first|refine Va ?_|(with_reducible refine aB (ht:=fun hb=>?_) (hf:=fun hb=>?_)<;>(try simp at hb))|refine Vn ?_|refine Vl (hG:=?_)|(refine Vm ([(1,106),(100000,29)]) (hf:=(LY _).mx) (hk:=?_);rintro _ _ ⟨⟩;refine⟨_,_,qE,qA,qA,?_⟩)|(refine Vm ([(100000,29),(100001,106)]) (hf:=hSo.mx) (hk:=?_);rintro _ _ ⟨⟩;refine⟨_,_,qE,qA,qA,?_⟩)|fail)
  obtain⟨S,hS⟩: ∃S,srt (Q.map (·.1))=S:=⟨_,rfl⟩
  have hSl:S.length=Q.length:=by rw[←hS];simp
  have hSk: ∀i:Nat,(S[i]?.getD []).length≤2000:=fun i=>by
   by_cases hi:i<S.length
   ·rw[List.getElem?_eq_getElem hi,Option.getD_some]
    have h1:S[i]∈srt (Q.map (·.1)):=by rw[hS];exact List.getElem_mem hi
    obtain⟨p,hp,e⟩:=List.mem_map.1 ((List.mergeSort_perm _ _).mem_iff.1 h1)
    rw[←e]
    exact(hlen p hp).1
   ·rw[List.getElem?_eq_none qD]
    simp
  rw[hS,←hSl]
  refine dP [(26,none,40000,127,[str [],str []])] [11,26,107,108,109] [29,40000] (fun x:Nat×List Trn=>[(109,.d (int x.1)),(26,.os 40000 x.2.length)]) (fun x=>[(40000,.own 127 2 (true,[str [],str []]) (x.2.map Tu))]) (fun x=>x.1≤S.length∧x.2.length≤x.1∧ ∀y∈x.2,y.1.length≤2000∧y.2.length≤10000) (fun x=>S.length-x.1) (0,[]) qE ?_
  rintro L2 hL2 ⟨i,T⟩ ⟨hi,hT,hTl⟩ ih2
  simp only at hi hT hTl ih2⊢
  repeat' (first|refine Va ?_|(with_reducible refine aB (ht:=fun hb=>?_) (hf:=fun hb=>?_)<;>(try simp at hb))|refine Vn ?_|refine Vl (hG:=?_)|fail)
  ·exact Vk [11,26,107,108,109] [29,40000] hL2 (ih2 (i+1,T++[(S[i]?.getD [],Bd Q (S[i]?.getD []))]) ⟨qI,qH,fun y hy=>by
    rcases List.mem_append.1 hy with hy|hy
    ·exact hTl y hy
    ·simp at hy
     subst hy
     exact⟨hSk i,CL Q _ fun p hp=>(hlen p hp).2⟩⟩ qI)
  ·refine⟨T,?_,qD,hTl⟩
   simp
   funext q
   cases h:T[q]?<;>simp[bL,h]
end Go.Proofs.YtdjfgcjlnfnfhaaGreatDoor
namespace Go.Proofs.YtdjfgcjlnfnfhaaGreatDoor
open Go.Lw Go.RowKit Go.ChangeShapes Go.WideShapes Go.ChangeAt
set_option maxRecDepth 100000
set_option maxHeartbeats 1000000
theorem Ej (s p:Bs) (hm:s.length≤9223372036854775807):aJ Tryz.prog 185 [str s,str p] (tru (p.isSuffixOf s)):=
 dL [.string (bs s),.string (bs p)] qC fun w _=>Tryz.strings_HasSuffix (bs s) (bs p) w (by simpa using hm)
end Go.Proofs.YtdjfgcjlnfnfhaaGreatDoor
namespace Go.Proofs.YtdjfgcjlnfnfhaaGreatDoor
open Go.Lw Go.RowKit
set_option maxRecDepth 100000
set_option maxHeartbeats 1000000
theorem Be (x:Trn) (s:Bs):aJ Tryz.prog 124 [.agg (Tu x),str s] (int (Lib.compareBytes x.1 s)):=by
 refine aW Tryz.func124 rfl qC Tryz.ntmps124 _ rfl qE fun C hc=>?_
 have h1:=gN x.1 s
 repeat' (first|refine Wd ?_|(refine Wc ?_ ?_<;>intro hb<;>try simp at hb)|refine Zw hc (hf:=by exact h1) (hk:=?_)|refine Zq hc (hf:=by exact h1) (hk:=?_)|refine Wn ?_|fail)
 (refine Zl hc (hr:=?_))
 simp
theorem On (H:List Trn) (s:Bs) (hl:H.length≤5000) (ha:S1 (oO H) H.length):aJ Tryz.prog 122 [mX H,str s,.lit (.func (.func 124) #[] #[])]
 (.tup [int (lbB (oO H) H.length s),tru (wE (oO H) H.length s)]):=by
 refine aW Tryz.func122 rfl qC Tryz.ntmps122 _ rfl qE fun C hc=>?_
 repeat' (first|refine Wd ?_|(refine Wc ?_ ?_<;>intro hb<;>try simp at hb)|refine Wn ?_|fail)
 refine aN (fun x:Nat×Nat=>⟨[(0,.d (mX H)),(1,.d (str s)),(2,.d (.lit (.func (.func 124) #[] #[]))),(8,.d (int H.length)),(9,.d (int x.1)),(10,.d (int x.2))],[]⟩)
  (fun x=>x.1≤x.2∧x.2≤H.length∧(∀j,j<x.1→Op.bytesLess (oO H j) s=true)∧(x.2<H.length→Op.bytesLess (oO H x.2) s=false)) (fun x=>x.2-x.1) (0,H.length) qE (aG [0,1,2,8,9,10] [] qA qA) ?_
 rintro⟨i,j⟩ ⟨h1,h2,h3,h4⟩
 simp only at h1 h2 h3 h4⊢
 by_cases hij:i<j
 ·obtain⟨m,hm,hm1,hm2⟩: ∃m:Nat,(i+j)/2=m∧i≤m∧m<j:=⟨_,rfl,qD,qD⟩
  have hC:=Be (bL H m) s
  have hneg:=PT (bL H m).1 s
  generalize Lib.compareBytes (bL H m).1 s=c at hC hneg
  have hfd:=JR hm
  repeat' (first|refine lJ ?_|refine dE hc (by simp[hfd];exact Ends.go) qG ?_|refine jS hc qC qC (by simp[hfd];exact Ends.go) qG ?_|refine iE ?_|refine eA ?_|refine gY ?_|refine fN ?_|refine jO ?_|refine iG ?_|refine jP ?_|refine iF ?_|refine eX ?_|refine jA ?_|refine gW ?_|refine dZ ?_|refine gX ?_|refine eU ?_|refine dV qK ?_|refine lK ?_|refine e9 ?_|refine eY ?_|(refine gK Qb (fun hb=>?_) (fun hb=>?_)<;>(try simp at hb))|refine cP hc Qb Qb Qb Qb Qb (fun _=>by first|exact hC) qE qE ?_|refine cW hc Qb Qb Qb Qb Qb (fun _=>by first|exact hC) qE qE ?_|refine fX hc (by simp[hfd];first|exact Ends.go|exact Ends.halt) qK qG ?_|refine dK hc (by simp[hfd];first|exact Ends.go|exact Ends.halt) qK qG ?_|refine cH hc (by simp[hfd];exact Ends.halt) qG ?_|refine dM hc qC qK qC (by simp[hfd];exact Ends.halt) qG ?_|fail)
  all_goals try(exfalso;omega)
  ·have hk:=hneg.1 hb
   exact⟨(m+1,j),⟨qI,h2,fun t ht=>by
    simp only at ht
    rcases Nat.lt_or_ge t m with h|h
    ·exact GH (ha t m h qD) hk
    ·obtain rfl:t=m:=by omega
     exact hk,h4⟩,qI,aC [0,1,2,8,9,10] [] qA qA qE⟩
  ·have hk:Op.bytesLess (oO H m) s=false:=Bool.eq_false_iff.2 fun e=>by
    have:=hneg.2 e
    omega
   exact⟨(i,m),⟨qI,qI,h3,fun _=>hk⟩,qI,aC [0,1,2,8,9,10] [] qA qA qE⟩
 ·obtain rfl:i=j:=by omega
  have e:=S2 h2 h3 h4
  repeat' (first|refine Wd ?_|(refine Wc ?_ ?_<;>intro hb<;>try simp at hb)|refine Wn ?_|fail)
  all_goals try(exfalso;omega)
  unfold wE
  rw[e]
  by_cases hn:i<H.length
  ·have hC:=Be (bL H i) s
   have hz:=Nn (bL H i).1 s
   generalize Lib.compareBytes (bL H i).1 s=c at hC hz
   repeat' (first|refine lJ ?_|refine dE hc qaL qG ?_|refine jS hc qC qC qaL qG ?_|refine iE ?_|refine eA ?_|refine gY ?_|refine fN ?_|refine jO ?_|refine iG ?_|refine jP ?_|refine iF ?_|refine eX ?_|refine jA ?_|refine gW ?_|refine dZ ?_|refine gX ?_|refine eU ?_|refine dV qK ?_|refine lK ?_|refine e9 ?_|refine eY ?_|(refine gK qO (fun hb=>?_) (fun hb=>?_)<;>(try simp at hb))|refine cP hc qO qO qO qO qO (fun _=>by first|exact hC) qE qE ?_|refine cW hc qO qO qO qO qO (fun _=>by first|exact hC) qE qE ?_|refine fX hc Qp qK qG ?_|refine dK hc Qp qK qG ?_|refine cH hc Q9 qG ?_|refine dM hc qC qK qC Q9 qG ?_|fail)
   (refine Zl hc (hr:=?_))
   have e2:(c==0)=decide (oO H i=s):=by
    rw[Bool.eq_iff_iff]
    simpa using hz
   simp[hn,e2]
  ·repeat' (first|refine lJ ?_|refine dE hc qaL qG ?_|refine jS hc qC qC qaL qG ?_|refine iE ?_|refine eA ?_|refine gY ?_|refine fN ?_|refine jO ?_|refine iG ?_|refine jP ?_|refine iF ?_|refine eX ?_|refine jA ?_|refine gW ?_|refine dZ ?_|refine gX ?_|refine eU ?_|refine dV qK ?_|refine lK ?_|refine e9 ?_|refine eY ?_|(refine gK qO (fun hb=>?_) (fun hb=>?_)<;>(try simp at hb))|refine iM hc qO qE ?_|refine cP hc qO qO qO qO qO (fun _=>by first|exact(show aJ _ _ _ (int 0)from by exfalso;simp_all;done)) qE qE ?_|refine cW hc qO qO qO qO qO (fun _=>by first|exact(show aJ _ _ _ (int 0)from by exfalso;simp_all;done)) qE qE ?_|refine fX hc Qp qK qG ?_|refine dK hc Qp qK qG ?_|refine cH hc Q9 qG ?_|refine dM hc qC qK qC Q9 qG ?_|fail)
   (refine Zl hc (hr:=?_))
   simp[hn]
theorem Ek (s p:Bs) (hs:s.length<4294967281):aJ Tryz.prog 120 [str s,str p] (tru (decide (0≤Lib.index s p))):=by
 refine aW Tryz.func120 rfl qC Tryz.ntmps120 _ rfl qE fun C hc=>?_
 have hI:=G9 s p hs
 generalize Lib.index s p=r at hI⊢
 repeat' (first|refine Wd ?_|(refine Wc ?_ ?_<;>intro hb<;>try simp at hb)|refine Zw hc (hf:=Qu) (hk:=?_)|refine Zq hc (hf:=Qu) (hk:=?_)|refine Wn ?_|fail)
 (refine Zl hc (hr:=?_))
 simp
abbrev tur (x:Nat) (T:List Trn) (n:Nat):List (Nat×O):=[(x,.box 134 [.d (mX T),.d (int n)])]
def r6 (T:List Trn) (x:Lnk):Bool:=x.leads&&wE (oO T) T.length (iT x.dest)
def r7 (T:List Trn) (x:Lnk):Bs:=
 if x.dest.fK=true∧ ¬0≤Lib.index (bL T (lbB (oO T) T.length (iT x.dest))).2 [35]then(bL T (lbB (oO T) T.length (iT x.dest))).2++35::x.dest.dH else(bL T (lbB (oO T) T.length (iT x.dest))).2
structure jU (x:Lnk):Prop where
 fits:x.dest.Fits
 dH:x.dest.dH.length≤2000
theorem Jc:jU Lnk.none:=⟨⟨qE,qE,qE,qE,qE,qE⟩,qE⟩
theorem kM {L:List Lnk} (h: ∀x∈L,jU x) (i:Nat):jU (L[i]?.getD Lnk.none):=by
 by_cases hi:i<L.length
 ·rw[List.getElem?_eq_getElem hi]
  exact h _ (List.getElem_mem hi)
 ·rw[List.getElem?_eq_none qD]
  exact Jc
theorem rL {T:List Trn} (hT:oN T=0) {x:Lnk} (hx:jU x):(r7 T x).length≤4001:=by
 have h:=(Kj hT).2.2 (lbB (oO T) T.length (iT x.dest))
 have h2:=hx.dH
 unfold r7
 split
 ·simp only[List.length_append,List.length_cons];omega
 ·omega
theorem sZ (T:List Trn) (hT:oN T=0) (x:Lnk) (hx:jU x) (n:Nat) (hn:n≤1000000000):
 bJ Tryz.prog 55 [.bp 100000 0,.d (.agg (Eb x))] (tur 100000 T n) (.d (.tup [str (if r6 T x=true then r7 T x else[]),tru (r6 T x)])) (tur 100000 T (if r6 T x=true then n+1 else n)):=by
 refine cY Tryz.func55 rfl qC Tryz.ntmps55 _ rfl qE fun C hc=>?_
 obtain⟨hTl,hTa,hTs⟩:=Kj hT
 have hP:=Ho x.dest hx.fits
 have hB:=On T (iT x.dest) hTl hTa
 have hlb:=(GJ (oO T) T.length (iT x.dest)).1
 have hfr:=hx.dH
 unfold r6 r7
 have hth:wE (oO T) T.length (iT x.dest)=true→lbB (oO T) T.length (iT x.dest)<T.length:=fun h=>by
  unfold wE at h
  simp only[Bool.and_eq_true,decide_eq_true_eq]at h
  exact h.1
 generalize iT x.dest=pl at hP hB hlb hth⊢
 generalize wE (oO T) T.length pl=th at hB hth⊢
 generalize lbB (oO T) T.length pl=k at hB hlb hth⊢
 obtain⟨xk,xt,xf,xl,xd,xs⟩:=x
 simp only at hP hfr⊢
 cases xs with
 |false=>
  repeat' (first|refine Wd ?_|(refine Wc ?_ ?_<;>intro hb<;>try simp at hb)|refine Wn ?_|fail)
  all_goals try contradiction
  (refine aE [100000] hc (aR rfl) qA qA qJ ?_)
  simp
 |true=>
  cases th with
  |false=>
   repeat' (first|refine Wd ?_|(refine Wc ?_ ?_<;>intro hb<;>try simp at hb)|refine Zw hc (hf:=by first|exact hP|exact hB) (hk:=?_)|refine Zq hc (hf:=by first|exact hP|exact hB) (hk:=?_)|refine Wn ?_|fail)
   all_goals try contradiction
   (refine aE [100000] hc (aR rfl) qA qA qJ ?_)
   simp
  |true=>
   have hk:=hth rfl
   have hks:=hTs k
   have hCn:=Ek (bL T k).2 [35] qD
   generalize Lib.index (bL T k).2 [35]=ix at hCn⊢
   simp only[Bool.and_self,if_true]
   repeat' (first|refine Wd ?_|(refine Wc ?_ ?_<;>intro hb<;>try simp at hb)|refine Zw hc (hf:=by first|exact hP|exact hB|exact hCn) (hk:=?_)|refine Zq hc (hf:=by first|exact hP|exact hB|exact hCn) (hk:=?_)|refine Wn ?_|fail)
   all_goals try contradiction
   ·rw[if_pos ⟨hb.1,qD⟩]
    (refine aE [100000] hc (aR rfl) qA qA qJ ?_)
    simp
   ·rw[if_neg (fun h=>by have:=hb h.1;omega)]
    (refine aE [100000] hc (aR rfl) qA qA qJ ?_)
    simp
abbrev Bf (L:List Lnk) (k:Nat):D:= .sl (L.length-k) fun i=>Eb (L[k+i]?.getD .none)
structure VaS where
 out:Bs
 fr:Nat
 any:Bool
 many:Nat
def eQ (T:List Trn) (v:Bs) (X:List (Nat×Nat)) (L:Nat→Lnk):Nat→VaS
 |0=>⟨[],0,false,0⟩
 |j+1=>if r6 T (L j)=true then⟨(eQ T v X L j).out++cR v ((eQ T v X L j).fr,(X[j]?.getD (0,0)).1)++r7 T (L j),(X[j]?.getD (0,0)).2,true,(eQ T v X L j).many+1⟩else eQ T v X L j
theorem Bg {T:List Trn} (hT:oN T=0) {v:Bs} {X:List (Nat×Nat)} (hX:Ord X 0 v.length) {L:Nat→Lnk} (hL: ∀j,jU (L j)): ∀j,j≤X.length→
 (eQ T v X L j).out.length≤(eQ T v X L j).fr+4001*j∧(eQ T v X L j).fr≤v.length∧(eQ T v X L j).many≤j∧(j<X.length→(eQ T v X L j).fr≤(X[j]?.getD (0,0)).1)∧((eQ T v X L j).any=true→0<(eQ T v X L j).many)∧(0<(eQ T v X L j).many→(eQ T v X L j).any=true)
 |0,_=>⟨Nat.zero_le _,Nat.zero_le _,Nat.le_refl _,fun _=>Nat.zero_le _,fun h=>(by cases h),fun h=>absurd h (Nat.lt_irrefl _)⟩
 |j+1,hj=>by
  obtain⟨h1,h2,h3,h4,h5,h6⟩:=Bg hT hX hL j qD
  have h7:=h4 qD
  have h8:=hX.get j qD
  have h9:=fun h=>hX.next j h
  have hl:=rL hT (hL j)
  unfold eQ
  generalize eQ T v X L j=s at h1 h2 h3 h4 h5 h6 h7⊢
  split
  ·refine⟨?_,qI,qI,fun h=>by simp only;have:=h9 h;omega,fun _=>by simp only;omega,fun _=>rfl⟩
   simp only[List.length_append,cR,List.length_drop,List.length_take]
   omega
  ·exact⟨qD,h2,qD,fun h=>by have:=h9 h;omega,h5,h6⟩
theorem Oo (T:List Trn) (hT:oN T=0) (v:Bs) (hv:v.length≤200000) (X:List (Nat×Nat)) (hX:Ord X 0 v.length) (L:List Lnk) (k:Nat) (hk:k+X.length≤L.length) (hLl:L.length≤5000) (hL: ∀x∈L,jU x) (n:Nat) (hn:n≤100000000):
 bJ Tryz.prog 114 [.bp 100000 0,.d (str v),.d (A0 X),.d (Bf L k)] (tur 100000 T n)
  (.d (.tup [str ((eQ T v X (fun j=>L[k+j]?.getD .none) X.length).out++v.drop (eQ T v X (fun j=>L[k+j]?.getD .none) X.length).fr),tru (eQ T v X (fun j=>L[k+j]?.getD .none) X.length).any])) (tur 100000 T (n+(eQ T v X (fun j=>L[k+j]?.getD .none) X.length).many)):=by
 refine cY Tryz.func114 rfl qC Tryz.ntmps114 _ rfl qE fun C hc=>?_
 have hI:=fun j=>kM hL (k+j)
 have hin:=Bg hT hX hI
 have hst: ∀j,eQ T v X (fun j=>L[k+j]?.getD .none) (j+1)=if r6 T (L[k+j]?.getD .none)=true then⟨(eQ T v X (fun j=>L[k+j]?.getD .none) j).out++cR v ((eQ T v X (fun j=>L[k+j]?.getD .none) j).fr,(X[j]?.getD (0,0)).1)++r7 T (L[k+j]?.getD .none),(X[j]?.getD (0,0)).2,true,(eQ T v X (fun j=>L[k+j]?.getD .none) j).many+1⟩else eQ T v X (fun j=>L[k+j]?.getD .none) j:=fun _=>rfl
 generalize hG:eQ T v X (fun j=>L[k+j]?.getD .none)=G at hin hst⊢
 have hG0:G 0=⟨[],0,false,0⟩:=by rw[←hG];rfl
 clear hG
 repeat' (first|refine Wd ?_|(refine Wc ?_ ?_<;>intro hb<;>try simp at hb)|refine Wn ?_|fail)
 refine aN (fun j:Nat=>⟨[(0,.bp 100000 0),(1,.d (str v)),(3,.d (Bf L k)),(10,.d (str (G j).out)),(11,.d (int (G j).fr)),(12,.d (tru (G j).any)),(17,.d (A0 X)),(18,.d (int X.length)),(19,.d (int j))],tur 100000 T (n+(G j).many)⟩) (fun j=>j≤X.length) (fun j=>X.length-j) 0 qE (aG [0,1,3,10,11,12,17,18,19] [100000] qaP qaP) ?_
 intro j hj
 obtain⟨g1,g2,g3,g4,g5,g6⟩:=hin j hj
 have hs:=hst j
 by_cases hjl:j<X.length
 ·have g7:=g4 hjl
  have g8:=hX.get j hjl
  have hTu:=sZ T hT (L[k+j]?.getD .none) (hI j) (n+(G j).many) qD
  have hl:=rL hT (hI j)
  generalize r6 T (L[k+j]?.getD .none)=tb at hTu hs
  generalize r7 T (L[k+j]?.getD .none)=tt at hTu hs hl
  generalize hgj:G j=s at*
  cases tb with
  |false=>
   rw[if_neg qK]at hs
   simp only[Bool.false_eq_true,if_false]at hTu
   repeat' (first|refine Wd ?_|(refine Wc ?_ ?_<;>intro hb<;>try simp at hb)|refine Wn ?_|refine aF ([(100000,100000)]) (hTu) hc qA qA qA qA qA rfl qA qA rfl qE qE qA qA ?_|fail)
   all_goals try contradiction
   all_goals try(exfalso;omega)
   exact⟨j+1,qD,qD,aC [0,1,3,10,11,12,17,18,19] [100000] qA qA (by simp[hs])⟩
  |true=>
   rw[if_pos rfl]at hs
   simp only[if_true]at hTu
   repeat' (first|refine Wd ?_|(refine Wc ?_ ?_<;>intro hb<;>try simp at hb)|refine Wn ?_|refine aF ([(100000,100000)]) (hTu) hc qA qA qA qA qA rfl qA qA rfl qE qE qA qA ?_|fail)
   all_goals try contradiction
   all_goals try(exfalso;omega)
   exact⟨j+1,qD,qD,aC [0,1,3,10,11,12,17,18,19] [100000] qA qA (by first|(simp[hs,cR,Nat.add_assoc];done)|(simp[hs,cR,Nat.add_assoc];omega))⟩
 ·obtain rfl:j=X.length:=by omega
  repeat' (first|refine Wd ?_|(refine Wc ?_ ?_<;>intro hb<;>try simp at hb)|refine Wn ?_|fail)
  all_goals try contradiction
  all_goals try(exfalso;omega)
  (refine aE [100000] hc (aR rfl) qA qA qJ ?_)
  simp
def Hq (s:Bs) (j:Nat):Bool:=if j<s.length then(if eP (s[j]?.getD 0)=false then true else Hq s (j+1))else false
termination_by s.length-j
def Bh (p:Bs) (fr:Nat) (s:Bs):Bs:=
 if(p[fr-1]?.getD 0).toNat=34∨(p[fr-1]?.getD 0).toNat=39 then safe s else if Hq (safe s) 0=true∨[47].isSuffixOf (safe s)=true then 34::(safe s++[34])else safe s
theorem LZ (p:Bs) (fr:Nat) (s:Bs):(Bh p fr s).length≤6*s.length+2:=by
 have:=AP s
 unfold Bh
 split
 ·omega
 ·split
  ·simp only[List.length_cons,List.length_append,List.length_nil];omega
  ·omega
theorem Jd (p:Bs) (fr til:Nat) (h0:0<fr) (hf:fr≤p.length) (hp:p.length≤200000) (s:Bs) (hs:s.length≤1000000000):aJ Tryz.prog 115 [str p,.agg [int fr,int til],str s] (str (Bh p fr s)):=by
 refine aW Tryz.func115 rfl qC Tryz.ntmps115 _ rfl qE fun C hc=>?_
 have hS:=NQ s hs
 have hsl:=AP s
 have e:((fr:Int)-1).toNat=fr-1:=by omega
 unfold Bh
 generalize safe s=t at hS hsl⊢
 by_cases hq:(p[fr-1]?.getD 0).toNat=34∨(p[fr-1]?.getD 0).toNat=39
 ·rw[if_pos hq]
  repeat' (first|refine Wd ?_|(refine Wc ?_ ?_<;>intro hb<;>try simp at hb)|refine Zw hc (hf:=Qf) (hk:=?_)|refine Zq hc (hf:=Qf) (hk:=?_)|refine Wn ?_|fail)
  all_goals try contradiction
  all_goals try(exfalso;omega)
  (refine Zl hc (hr:=?_))
  simp
 rw[if_neg hq]
 repeat' (first|refine Wd ?_|(refine Wc ?_ ?_<;>intro hb<;>try simp at hb)|refine Zw hc (hf:=Qf) (hk:=?_)|refine Zq hc (hf:=Qf) (hk:=?_)|refine Wn ?_|fail)
 all_goals try contradiction
 all_goals try(exfalso;omega)
 refine aN (fun j:Nat=>⟨[(7,.d (str t)),(25,.d (int t.length)),(26,.d (int j))],[]⟩) (fun j=>j≤t.length∧Hq t 0=Hq t j) (fun j=>t.length-j) 0 qE (aG [7,25,26] [] qA qA) ?_
 rintro j ⟨hj,hA⟩
 have hst:Hq t j=if j<t.length then(if eP (t[j]?.getD 0)=false then true else Hq t (j+1))else false:=by rw[Hq]
 by_cases hjl:j<t.length
 ·have hI:=AQ (t[j]?.getD 0)
  rw[if_pos hjl]at hst
  generalize eP (t[j]?.getD 0)=b at hI hst
  cases b with
  |false=>
   rw[if_pos rfl]at hst
   rw[if_pos (.inl (hA.trans hst))]
   repeat' (first|refine Wd ?_|(refine Wc ?_ ?_<;>intro hb<;>try simp at hb)|refine Zw hc (hf:=Qu) (hk:=?_)|refine Zq hc (hf:=Qu) (hk:=?_)|refine Wn ?_|fail)
   all_goals try contradiction
   all_goals try(exfalso;omega)
   (refine Zl hc (hr:=?_))
   simp
  |true=>
   rw[if_neg qK]at hst
   repeat' (first|refine Wd ?_|(refine Wc ?_ ?_<;>intro hb<;>try simp at hb)|refine Zw hc (hf:=Qu) (hk:=?_)|refine Zq hc (hf:=Qu) (hk:=?_)|refine Wn ?_|fail)
   all_goals try contradiction
   all_goals try(exfalso;omega)
   exact⟨j+1,⟨qD,hA.trans hst⟩,qD,aC [7,25,26] [] qA qA qE⟩
 ·rw[if_neg hjl]at hst
  have hH:=Ej t [47] qD
  have hb0:Hq t 0=false:=hA.trans hst
  generalize [47].isSuffixOf t=u at hH⊢
  rw[hb0]
  cases u with
  |false=>
   rw[if_neg qK]
   repeat' (first|refine Wd ?_|(refine Wc ?_ ?_<;>intro hb<;>try simp at hb)|refine Zw hc (hf:=by exact hH) (hk:=?_)|refine Zq hc (hf:=by exact hH) (hk:=?_)|refine Wn ?_|fail)
   all_goals try contradiction
   all_goals try(exfalso;omega)
   (refine Zl hc (hr:=?_))
   simp
  |true=>
   rw[if_pos qK]
   repeat' (first|refine Wd ?_|(refine Wc ?_ ?_<;>intro hb<;>try simp at hb)|refine Zw hc (hf:=by exact hH) (hk:=?_)|refine Zq hc (hf:=by exact hH) (hk:=?_)|refine Wn ?_|fail)
   all_goals try contradiction
   all_goals try(exfalso;omega)
   (refine Zl hc (hr:=?_))
   simp
structure Edt where
 fr:Nat
 til:Nat
 new:Bs
abbrev Edt.none:Edt:=⟨0,0,[]⟩
abbrev Je (x:Edt):List D:=[int x.fr,int x.til,str x.new]
abbrev Kl (E:List Edt):D:= .sl E.length fun i=>Je (E[i]?.getD .none)
def mY (p:Bs) (E:List Edt):Nat→Bs×Nat
 |0=>([],0)
 |j+1=>((mY p E j).1++cR p ((mY p E j).2,(E[j]?.getD .none).fr)++(E[j]?.getD .none).new,(E[j]?.getD .none).til)
def Jf (p:Bs) (E:List Edt):Bs:=(mY p E E.length).1++p.drop (mY p E E.length).2
def Hr (E:List Edt) (a b:Nat):Prop:=Ord (E.map fun x=>(x.fr,x.til)) a b
theorem CM {E:List Edt} {a b:Nat} (h:Hr E a b) (i:Nat) (hi:i<E.length):a≤(E[i]?.getD Edt.none).fr∧(E[i]?.getD Edt.none).fr≤(E[i]?.getD Edt.none).til∧(E[i]?.getD Edt.none).til≤b:=by
 have:=Ord.get h i qU
 rw[List.getElem?_map,List.getElem?_eq_getElem hi]at this
 rw[List.getElem?_eq_getElem hi]
 exact this
theorem Jg {E:List Edt} {a b:Nat} (h:Hr E a b) (i:Nat) (hi:i+1<E.length):(E[i]?.getD Edt.none).til≤(E[i+1]?.getD Edt.none).fr:=by
 have:=Ord.next h i qU
 rw[List.getElem?_map,List.getElem?_map,List.getElem?_eq_getElem hi,List.getElem?_eq_getElem qD]at this
 rw[List.getElem?_eq_getElem hi,List.getElem?_eq_getElem qD]
 exact this
theorem Hs {p:Bs} {E:List Edt} (hE:Hr E 0 p.length) (hn: ∀i:Nat,(E[i]?.getD Edt.none).new.length≤200000000): ∀j,j≤E.length→
 (mY p E j).1.length≤(mY p E j).2+200000000*j∧(mY p E j).2≤p.length∧(j<E.length→(mY p E j).2≤(E[j]?.getD Edt.none).fr)
 |0,_=>⟨Nat.zero_le _,Nat.zero_le _,fun _=>Nat.zero_le _⟩
 |j+1,hj=>by
  obtain⟨h1,h2,h3⟩:=Hs hE hn j qD
  have h4:=h3 qD
  have h5:=CM hE j qD
  have h6:=fun h=>Jg hE j h
  have h7:=hn j
  unfold mY
  refine⟨?_,qI,fun h=>by simp only;exact h6 h⟩
  simp only[List.length_append,cR,List.length_drop,List.length_take]
  omega
theorem Oq {α:Type} (A B D:List α) (k:Nat) (h:k=A.length+B.length):A++(B++D)=List.take k (A++B)++D:=by
 rw[List.take_of_length_le (by rw[List.length_append];omega),List.append_assoc]
theorem Ht (p:Bs) (E:List Edt) (hp:p.length≤200000) (hl:E.length≤5000) (hE:Hr E 0 p.length) (hn: ∀i:Nat,(E[i]?.getD Edt.none).new.length≤200000000):
 aJ Tryz.prog 52 [str p,Kl E] (if 200000<(Jf p E).length then .tup [fQ,int 2]else .tup [byS (Jf p E),int 0]):=by
 refine aW Tryz.func52 rfl qC Tryz.ntmps52 _ rfl qE fun C hc=>?_
 have hin:=Hs hE hn
 have hst: ∀j,mY p E (j+1)=((mY p E j).1++cR p ((mY p E j).2,(E[j]?.getD .none).fr)++(E[j]?.getD .none).new,(E[j]?.getD .none).til):=fun _=>rfl
 unfold Jf
 generalize hG:mY p E=G at hin hst⊢
 have hG0:G 0=([],0):=by rw[←hG];rfl
 clear hG
 repeat' (first|refine Wd ?_|(refine Wc ?_ ?_<;>intro hb<;>try simp at hb)|refine Wn ?_|fail)
 refine aN (fun j:Nat=>⟨[(0,.d (str p)),(6,.os 40000 (G j).1.length),(7,.d (int (G j).2)),(10,.d (Kl E)),(11,.d (int E.length)),(12,.d (int j))],[(40000,.own 5 1 (true,[.lit (.int .u8 0)]) ((G j).1.map aZ))]⟩) (fun j=>j≤E.length) (fun j=>E.length-j) 0 qE (cQ [(6,none,40000,5,[.lit (.int .u8 0)])] [0,6,7,10,11,12] [40000] qA qaP qaP) ?_
 intro j hj
 obtain⟨g1,g2,g3⟩:=hin j hj
 have hs:=hst j
 by_cases hjl:j<E.length
 ·have g4:=g3 hjl
  have g5:=CM hE j hjl
  have g6:=hn j
  generalize hgj:G j=s at*
  obtain⟨s1,s2⟩:=s
  simp only at g1 g2 g4 hs
  repeat' (first|refine Wd ?_|(refine Wc ?_ ?_<;>intro hb<;>try simp at hb)|refine Wm ?_|fail)
  all_goals try contradiction
  all_goals try(exfalso;omega)
  refine bA (aG [0,6,7,9,10,11,12] [9,40000] qA qA) ?_
  (apply Xd 12 hc;(focus(refine Xm 0 hc (hk:=?_);refine Xm 1 hc (hk:=?_);refine Xm 2 hc (hk:=?_);refine Xp 3 hc (hk:=?_);refine Xp 4 hc (hk:=?_);refine Xp 8 hc (hk:=?_);refine aI 5 [5,6,7,10,11] hc rfl qC rfl qA qF qE qA ?_;refine Xa [6,9] (hx:=?_);refine⟨?_,?_⟩;(focus(refine Xw hc (hk:=?q60);refine Xa [7,9] (hx:=?nq60);refine⟨?_,?_⟩;(focus(refine Xw hc (hk:=?q61);refine aI 9 [9,10,11] hc rfl qC rfl qA qF qE qA ?nq61;refine Xa [10] (hx:=?_);(focus(refine Xw hc (hk:=?q62);refine Xm 11 hc (hk:=?nq62);refine Xz (hk:=?_);exact Xk [0,6,7,9,10,11,12] [9,40000]))));(focus(refine Xw hc (hk:=?q63);refine Xa [7] (hx:=?nq63);(focus(refine Xw hc (hk:=?q64);refine Xa [10] (hx:=?nq64);(focus(refine Xw hc (hk:=?_);exact Xq ?q62))))))));(focus(refine Xw hc (hk:=?q65);refine Xa [6] (hx:=?nq65);(focus(refine Xw hc (hk:=?_);exact Xq ?q63)))))))
  repeat' (first|refine Wd ?_|(refine Wc ?_ ?_<;>intro hb<;>try simp at hb)|refine Wm ?_|fail)
  exact⟨j+1,qD,qD,aC [0,6,7,10,11,12] [40000] qA qA (by
   simp[hs,cR]
   exact⟨qD,Oq _ _ _ _ (by simp only[List.length_map,List.length_drop,List.length_take])⟩)⟩
 ·obtain rfl:j=E.length:=by omega
  generalize hgj:G E.length=s at*
  obtain⟨s1,s2⟩:=s
  simp only at g1 g2⊢
  repeat' (first|refine Wd ?_|(refine Wc ?_ ?_<;>intro hb<;>try simp at hb)|refine Wm ?_|fail)
  all_goals try contradiction
  all_goals try(exfalso;omega)
  ·rw[if_pos Qy]
   (refine Zl hc (hr:=?_))
   simp
  ·rw[if_neg Qy]
   (refine Zl hc (hr:=?_))
   simp
   funext i
   rw[←List.map_drop,←List.map_append,List.getElem?_map]
   cases(s1++List.drop s2 p)[i]?<;>rfl
end Go.Proofs.YtdjfgcjlnfnfhaaGreatDoor
namespace Go.Proofs.YtdjfgcjlnfnfhaaGreatDoor
open Go.Lw
set_option maxRecDepth 100000
set_option maxHeartbeats 1000000
structure EdS where
 E:List Edt
 k:Nat
 n:Nat
def CN (T:List Trn) (L:List Lnk) (q:Nat) (x:Nat×Nat) (r:EdS):EdS:=
 if r6 T (L[r.k]?.getD .none)=true then⟨r.E++[⟨q+x.1,q+x.2,r7 T (L[r.k]?.getD .none)⟩],r.k+1,r.n+1⟩else⟨r.E,r.k+1,r.n⟩
def oL (T:List Trn) (L:List Lnk) (q:Nat) (X:List (Nat×Nat)) (s:EdS):Nat→EdS
 |0=>s
 |j+1=>CN T L q (X[j]?.getD (0,0)) (oL T L q X s j)
def yO (t:Tk) (k:Nat):List (Nat×Nat):=fR (dD t (t.aH[k]?.getD .none).name) (t.aH[k]?.getD .none).val
def oP (T:List Trn) (L:List Lnk) (t:Tk) (k i:Nat):VaS:=eQ T (t.aH[k]?.getD .none).val (yO t k) (fun j=>L[i+j]?.getD .none) (yO t k).length
def yA (p:Bs) (T:List Trn) (L:List Lnk) (t:Tk) (k:Nat) (r:EdS):EdS:=
 if Ja t k=true then⟨if(oP T L t k r.k).any=true then r.E++[⟨(t.aH[k]?.getD .none).fr,(t.aH[k]?.getD .none).til,Bh p (t.aH[k]?.getD .none).fr ((oP T L t k r.k).out++(t.aH[k]?.getD .none).val.drop (oP T L t k r.k).fr)⟩]else r.E,r.k+(yO t k).length,r.n+(oP T L t k r.k).many⟩else r
def gQ (p:Bs) (T:List Trn) (L:List Lnk) (t:Tk) (s:EdS):Nat→EdS
 |0=>s
 |k+1=>yA p T L t k (gQ p T L t s k)
def wW (p:Bs) (m:List Tk) (i:Nat):List (Nat×Nat):=inS (cR p ((m[i]?.getD .none).fr,(m[i]?.getD .none).til)) 0
def WZ (p:Bs) (T:List Trn) (L:List Lnk) (m:List Tk) (i:Nat) (s:EdS):EdS:=
 gQ p T L (m[i]?.getD .none) (if lT m i=true then oL T L (m[i]?.getD .none).fr (wW p m i) s (wW p m i).length else s) (m[i]?.getD .none).aH.length
def lC (p:Bs) (T:List Trn) (L:List Lnk) (m:List Tk):Nat→EdS
 |0=>⟨[],0,0⟩
 |i+1=>WZ p T L m i (lC p T L m i)
theorem El (T:List Trn) (L:List Lnk) (q:Nat) (X:List (Nat×Nat)) (s:EdS): ∀j,(oL T L q X s j).k=s.k+j
 |0=>rfl
 |j+1=>by
  have:=El T L q X s j
  unfold oL CN
  split<;>(simp only;omega)
theorem RF (a b:Adr) (t:Tk) (k:Nat):(jZ a b t k).length=if Ja t k=true then(yO t k).length else 0:=by
 unfold jZ yO
 split<;>simp
theorem Em (p:Bs) (T:List Trn) (L:List Lnk) (a b:Adr) (t:Tk) (s:EdS): ∀k,(gQ p T L t s k).k=s.k+(cO a b t k).length
 |0=>rfl
 |k+1=>by
  have h1:=Em p T L a b t s k
  have h2:(cO a b t (k+1)).length=(cO a b t k).length+(jZ a b t k).length:=by simp[cO]
  have h3:=RF a b t k
  unfold gQ yA
  split
  ·rename_i h
   rw[if_pos h]at h3
   simp only
   omega
  ·rename_i h
   rw[if_neg h]at h3
   omega
theorem Km (p:Bs) (a b:Adr) (m:List Tk) (i:Nat):(lU p a b m i).length=if lT m i=true then(wW p m i).length else 0:=by
 unfold lU wW
 split<;>simp
def mZ (p:Bs) (T:List Trn) (L:List Lnk) (m:List Tk) (i:Nat) (s:EdS):EdS:=if lT m i=true then oL T L (m[i]?.getD .none).fr (wW p m i) s (wW p m i).length else s
theorem Ot (p:Bs) (T:List Trn) (L:List Lnk) (a b:Adr) (m:List Tk) (i:Nat) (s:EdS):(mZ p T L m i s).k=s.k+(lU p a b m i).length:=by
 have h:=Km p a b m i
 have h2:=El T L (m[i]?.getD .none).fr (wW p m i) s (wW p m i).length
 unfold mZ
 split
 ·rename_i hs
  rw[if_pos hs]at h
  omega
 ·rename_i hs
  rw[if_neg hs]at h
  omega
theorem Eo (p:Bs) (T:List Trn) (L:List Lnk) (a b:Adr) (m:List Tk): ∀i,(lC p T L m i).k=(eC p a b m i).length
 |0=>rfl
 |i+1=>by
  have h1:=Eo p T L a b m i
  have h2:=Ot p T L a b m i (lC p T L m i)
  have h3:=Em p T L a b (m[i]?.getD .none) (mZ p T L m i (lC p T L m i)) (m[i]?.getD .none).aH.length
  have h4:(eC p a b m (i+1)).length=(eC p a b m i).length+((lU p a b m i).length+(cO a b (m[i]?.getD .none) (m[i]?.getD .none).aH.length).length):=by
   show(eC p a b m i++(lU p a b m i++cO a b (m[i]?.getD .none) (m[i]?.getD .none).aH.length)).length=_
   rw[List.length_append,List.length_append]
  show(gQ p T L (m[i]?.getD .none) (mZ p T L m i (lC p T L m i)) (m[i]?.getD .none).aH.length).k=_
  omega
theorem yB (a b:Adr) (t:Tk) {j k:Nat} (h:j≤k):(cO a b t j).length≤(cO a b t k).length:=by
 induction k with
 |zero=>obtain rfl:j=0:=by omega
        exact Nat.le_refl _
 |succ k ih=>
  rcases Nat.lt_or_ge j (k+1)with h2|h2
  ·have:=ih qD
   show _≤(cO a b t k++jZ a b t k).length
   rw[List.length_append]
   omega
  ·obtain rfl:j=k+1:=by omega
   exact Nat.le_refl _
structure oA (s:EdS) (a:Nat):Prop where
 ord:Hr s.E 0 a
 less:s.E.length≤s.n
 many:s.n≤s.k
 new: ∀i:Nat,(s.E[i]?.getD Edt.none).new.length≤200000000
theorem Ord.up {r:List (Nat×Nat)} {a b c:Nat} (h:Ord r a b) (hc:b≤c):Ord r a c:=by
 have:=h.append (show Ord [] b c from hc)
 rwa [List.append_nil]at this
theorem oA.up {s:EdS} {a b:Nat} (h:oA s a) (hb:a≤b):oA s b:=⟨Ord.up h.ord hb,h.less,h.many,h.new⟩
theorem oA.push {s:EdS} {a:Nat} (h:oA s a) {f t:Nat} {w:Bs} (h1:a≤f) (h2:f≤t) (hw:w.length≤200000000) {k n:Nat} (hk:n≤k) (hn:s.n<n):oA ⟨s.E++[⟨f,t,w⟩],k,n⟩ t:=by
 refine⟨?_,?_,hk,fun i=>?_⟩
 ·show Ord ((s.E++[(⟨f,t,w⟩:Edt)]).map fun x=>(x.fr,x.til)) 0 t
  rw[List.map_append]
  exact Ord.append h.ord (show Ord [(f,t)] a t from⟨h1,h2,Nat.le_refl _⟩)
 ·have:=h.less
  simp only[List.length_append,List.length_singleton]
  omega
 ·rcases Nat.lt_trichotomy i s.E.length with hi|hi|hi
  ·have:=h.new i
   rwa [List.getElem?_append_left hi]
  ·simp only
   rw[hi,List.getElem?_append_right (Nat.le_refl _),Nat.sub_self]
   exact hw
  ·simp only
   rw[List.getElem?_eq_none qH]
   simp
theorem Bi {T:List Trn} (hT:oN T=0) {L:List Lnk} (hL: ∀x∈L,jU x) {q w:Nat} {X:List (Nat×Nat)} (hX:Ord X 0 w) {s:EdS} (hs:oA s q): ∀j,j≤X.length→oA (oL T L q X s j) (if j<X.length then q+(X[j]?.getD (0,0)).1 else q+w)
 |0,_=>by
  refine hs.up ?_
  split<;>omega
 |j+1,hj=>by
  have ih:=Bi hT hL hX hs j qD
  rw[if_pos qD]at ih
  have h1:=hX.get j qD
  have h2:q+(X[j]?.getD (0,0)).2≤if j+1<X.length then q+(X[j+1]?.getD (0,0)).1 else q+w:=by
   split
   ·rename_i h
    have:=hX.next j h
    omega
   ·omega
  have hl:=rL hT (kM hL (oL T L q X s j).k)
  have hm:=ih.many
  show oA (CN T L q (X[j]?.getD (0,0)) (oL T L q X s j)) _
  unfold CN
  split
  ·exact(ih.push qD qD qD qD qD).up h2
  ·exact oA.up (a:=q+(X[j]?.getD (0,0)).1) ⟨ih.ord,ih.less,qI,ih.new⟩ qD
theorem Kn {T:List Trn} (hT:oN T=0) {L:List Lnk} (hL: ∀x∈L,jU x) (t:Tk) (k i:Nat):
 (oP T L t k i).out.length≤(oP T L t k i).fr+4001*(yO t k).length∧(oP T L t k i).fr≤(t.aH[k]?.getD .none).val.length∧(oP T L t k i).many≤(yO t k).length∧((oP T L t k i).any=true→0<(oP T L t k i).many)∧(0<(oP T L t k i).many→(oP T L t k i).any=true):=by
 have:=Bg hT (nZ (dD t (t.aH[k]?.getD .none).name) (t.aH[k]?.getD .none).val) (L:=fun j=>L[i+j]?.getD .none) (fun j=>kM hL (i+j)) (yO t k).length (Nat.le_refl _)
 exact⟨this.1,this.2.1,this.2.2.1,this.2.2.2.2.1,this.2.2.2.2.2⟩
theorem Bj {p:Bs} {T:List Trn} (hT:oN T=0) {L:List Lnk} (hL: ∀x∈L,jU x) {t:Tk} {q:Nat} (hA:uV t.aH q t.til) (hv: ∀x∈t.aH,x.val.length≤200000) {s:EdS} (hs:oA s q): ∀k,k≤t.aH.length→(gQ p T L t s k).k≤5000→oA (gQ p T L t s k) (if k<t.aH.length then(t.aH[k]?.getD .none).fr else t.til)
 |0,_,_=>by
  refine hs.up ?_
  have h0:=hA.ord
  split
  ·rename_i h
   have:=Ord.get h0 0 q8
   rw[List.getElem?_map,List.getElem?_eq_getElem h]at this
   rw[List.getElem?_eq_getElem h]
   exact this.1
  ·exact Ord.le h0
 |k+1,hk,h5=>by
  have hO:=hA.ord
  have hk0:k<t.aH.length:=by omega
  have hst:gQ p T L t s (k+1)=yA p T L t k (gQ p T L t s k):=rfl
  have hkk:(gQ p T L t s k).k≤5000∧(Ja t k=true→(gQ p T L t s k).k+(yO t k).length≤5000):=by
   rw[hst]at h5
   unfold yA at h5
   split at h5
   ·simp only at h5
    exact⟨qD,fun _=>h5⟩
   ·rename_i hn
    exact⟨h5,fun h=>absurd h hn⟩
  have ih:=Bj hT hL hA hv hs k qD hkk.1
  rw[if_pos hk0]at ih
  have h1:=Ord.get hO k (by simpa using hk0)
  rw[List.getElem?_map,List.getElem?_eq_getElem hk0]at h1
  have h1':q≤(t.aH[k]?.getD .none).fr∧(t.aH[k]?.getD .none).fr≤(t.aH[k]?.getD .none).til∧(t.aH[k]?.getD .none).til≤t.til:=by
   rw[List.getElem?_eq_getElem hk0];exact h1
  have h2:(t.aH[k]?.getD .none).til≤if k+1<t.aH.length then(t.aH[k+1]?.getD .none).fr else t.til:=by
   split
   ·rename_i h
    have:=Ord.next hO k q8
    rw[List.getElem?_map,List.getElem?_map,List.getElem?_eq_getElem hk0,List.getElem?_eq_getElem h]at this
    rw[List.getElem?_eq_getElem hk0,List.getElem?_eq_getElem h]
    exact this
   ·exact h1'.2.2
  have hvl:(t.aH[k]?.getD .none).val.length≤200000:=by
   rw[List.getElem?_eq_getElem hk0]
   exact hv _ (List.getElem_mem hk0)
  obtain⟨v1,v2,v3,v4,v5⟩:=Kn hT hL t k (gQ p T L t s k).k
  have hm:=ih.many
  rw[hst]
  unfold yA
  split
  ·rename_i hh
   have h6:=hkk.2 hh
   split
   ·rename_i ha
    have v6:=v4 ha
    refine(ih.push (Nat.le_refl _) h1'.2.1 ?_ qD qD).up h2
    refine Nat.le_trans (LZ _ _ _) ?_
    simp only[List.length_append,List.length_drop]
    omega
   ·exact oA.up (a:=(t.aH[k]?.getD .none).fr) ⟨ih.ord,by have:=ih.less;simp only;omega,qI,ih.new⟩ qD
  ·exact ih.up qD
theorem Ep {p:Bs} {T:List Trn} (hT:oN T=0) {L:List Lnk} (hL: ∀x∈L,jU x) {m:List Tk} (hm:Rw p m) (hA: ∀i,i<m.length→uV (m[i]?.getD .none).aH (m[i]?.getD .none).fr (m[i]?.getD .none).til)
 (hN: ∀i,i+1<m.length→(m[i]?.getD .none).til≤(m[i+1]?.getD .none).fr) (a b:Adr) (h5:(eC p a b m m.length).length≤5000): ∀i,i≤m.length→oA (lC p T L m i) (if i<m.length then(m[i]?.getD .none).fr else p.length)
 |0,_=>⟨by show Ord [] 0 _;exact Nat.zero_le _,Nat.le_refl _,Nat.le_refl _,fun i=>by simp[lC]⟩
 |i+1,hi=>by
  have ih:=Ep hT hL hm hA hN a b h5 i qD
  rw[if_pos qD]at ih
  have hA1:=hA i qD
  have hin:=hm.ins i qD
  have hto:(m[i]?.getD .none).til≤if i+1<m.length then(m[i+1]?.getD .none).fr else p.length:=by
   split
   ·rename_i h;exact hN i h
   ·exact hin.2
  have hk:=Eo p T L a b m (i+1)
  have hmo:=A6 p a b m (i+1) m.length hi
  have hk5:(gQ p T L (m[i]?.getD .none) (mZ p T L m i (lC p T L m i)) (m[i]?.getD .none).aH.length).k≤5000:=by
   have:(lC p T L m (i+1)).k=(gQ p T L (m[i]?.getD .none) (mZ p T L m i (lC p T L m i)) (m[i]?.getD .none).aH.length).k:=rfl
   omega
  show oA (gQ p T L (m[i]?.getD .none) (mZ p T L m i (lC p T L m i)) (m[i]?.getD .none).aH.length) _
  by_cases hs:lT m i=true
  ·have hk1:(m[i]?.getD .none).kind=1:=by
    unfold lT at hs
    simp only[Bool.and_eq_true,decide_eq_true_eq]at hs
    exact hs.1.1.1
   have ha:(m[i]?.getD .none).aH=[]:=hm.plain i qD
   have h0:gQ p T L (m[i]?.getD .none) (mZ p T L m i (lC p T L m i)) (m[i]?.getD .none).aH.length=mZ p T L m i (lC p T L m i):=by rw[ha];rfl
   rw[h0]
   unfold mZ
   rw[if_pos hs]
   have hX:Ord (wW p m i) 0 ((m[i]?.getD .none).til-(m[i]?.getD .none).fr):=by
    have:=lS (cR p ((m[i]?.getD .none).fr,(m[i]?.getD .none).til)) 0 (Nat.zero_le _)
    have hl:(cR p ((m[i]?.getD .none).fr,(m[i]?.getD .none).til)).length=(m[i]?.getD .none).til-(m[i]?.getD .none).fr:=by simp[cR];omega
    rwa [hl]at this
   have:=Bi hT hL hX ih (wW p m i).length (Nat.le_refl _)
   rw[if_neg (Nat.lt_irrefl _)]at this
   exact this.up qD
  ·have h0:mZ p T L m i (lC p T L m i)=lC p T L m i:=by unfold mZ;rw[if_neg hs]
   rw[h0]at hk5⊢
   have:=Bj (p:=p) hT hL hA1 (hm.fit.Ru i) ih _ (Nat.le_refl _) hk5
   rw[if_neg (Nat.lt_irrefl _)]at this
   exact this.up hto
theorem Ou {r:List Atr} {a b:Nat} (h:uV r a b): ∀k,k<r.length→0<(r[k]?.getD Atr.none).fr:=by
 induction r generalizing a with
 |nil=>intro k hk;simp at hk
 |cons x r ih=>
  intro k hk
  cases k with
  |zero=>have:=h.1;simp;omega
  |succ k=>simpa using ih h.2.2 k qaZ
end Go.Proofs.YtdjfgcjlnfnfhaaGreatDoor
namespace Go.Proofs.YtdjfgcjlnfnfhaaGreatDoor
open Go.Lw Go.RowKit
set_option maxRecDepth 100000
set_option maxHeartbeats 3000000
abbrev dfE:List D:=[.lit (.int .i64 0),.lit (.int .i64 0),.lit (.string (bs []))]
@[simp] theorem VU (o:Option Edt):(Option.map Je o).getD dfE=Je (o.getD .none):=by cases o<;>rfl
abbrev edO (E:List Edt):Nat×O:=(40000,.own 144 3 (true,dfE) (E.map Je))
theorem Ov (p:Bs) (T:List Trn) (hT:oN T=0) (m:List Tk) (hm:Rw p m) (hA: ∀i,i<m.length→uV (m[i]?.getD .none).aH (m[i]?.getD .none).fr (m[i]?.getD .none).til)
 (hN: ∀i,i+1<m.length→(m[i]?.getD .none).til≤(m[i+1]?.getD .none).fr) (a b:Adr) (L:List Lnk) (hLe:L=eC p a b m m.length) (h5:L.length≤5000) (hL: ∀x∈L,jU x):
 bJ Tryz.prog 53 [.bp 100000 0,.d (str p),.d (dX m),.d (oK L)] (tur 100000 T 0) (.d (Kl (lC p T L m m.length).E)) (tur 100000 T (lC p T L m m.length).n):=by
 refine cY Tryz.func53 rfl qC Tryz.ntmps53 _ rfl qE fun C hc=>?_
 have h5':(eC p a b m m.length).length≤5000:=by rw[←hLe];exact h5
 have hin:=Ep hT hL hm hA hN a b h5'
 have hkk:=Eo p T L a b m
 have hst: ∀i,lC p T L m (i+1)=gQ p T L (m[i]?.getD .none) (mZ p T L m i (lC p T L m i)) (m[i]?.getD .none).aH.length:=fun _=>rfl
 have hkl2: ∀i,i<m.length→(lC p T L m i).k+((lU p a b m i).length+(cO a b (m[i]?.getD .none) (m[i]?.getD .none).aH.length).length)≤L.length:=fun i hi=>by
  have h1:=A6 p a b m (i+1) m.length qD
  have h4:(eC p a b m (i+1)).length=(eC p a b m i).length+((lU p a b m i).length+(cO a b (m[i]?.getD .none) (m[i]?.getD .none).aH.length).length):=by
   show(eC p a b m i++(lU p a b m i++cO a b (m[i]?.getD .none) (m[i]?.getD .none).aH.length)).length=_
   rw[List.length_append,List.length_append]
  rw[hkk i,hLe]
  omega
 obtain⟨hpl,hf,hins,hpa⟩:=hm
 have hml:=hf.len
 generalize hG:lC p T L m=G at hin hkk hst hkl2⊢
 have hG0:G 0=⟨[],0,0⟩:=by rw[←hG];rfl
 clear hG
 repeat' (first|refine Wd ?_|(refine Wc ?_ ?_<;>intro hb<;>try simp at hb)|refine Wn ?_|fail)
 refine aN (fun i:Nat=>⟨[(0,.bp 100000 0),(1,.d (str p)),(2,.d (dX m)),(3,.d (Bf L (G i).k)),(9,.os 40000 (G i).E.length),(22,.d (dX m)),(23,.d (int m.length)),(24,.d (int i))],tur 100000 T (G i).n++[edO (G i).E]⟩) (fun i=>i≤m.length) (fun i=>m.length-i) 0 qE (by
  have e0:Bf L 0=oK L:=by simp
  simp only[hG0,e0]
  exact cQ [(9,none,40000,144,dfE)] [0,1,2,3,9,22,23,24] [100000,40000] qA qA qA) ?_
 intro i hi
 by_cases hil:i<m.length
 ·have hS:=uW m i hml hil
  have hinI:=hin i hi
  rw[if_pos hil]at hinI
  have hsti:=hst i
  obtain⟨ht0,ht1⟩:=hins i hil
  have ht2:=hf.aH i
  have ht3:=hf.Ru i
  have hpl2:=hpa i
  have hAi:=hA i hil
  have hkli:=hkl2 i hil
  have hI:=nY (cR p ((m[i]?.getD Tk.none).fr,(m[i]?.getD Tk.none).til)) (Nat.le_trans (mW _ _) hpl)
  have lcut:(cR p ((m[i]?.getD Tk.none).fr,(m[i]?.getD Tk.none).til)).length=(m[i]?.getD Tk.none).til-(m[i]?.getD Tk.none).fr:=by simp[cR];omega
  have hX:=lS (cR p ((m[i]?.getD Tk.none).fr,(m[i]?.getD Tk.none).til)) 0 (Nat.zero_le _)
  rw[lcut]at hX
  have hsk:=Km p a b m i
  have hss:mZ p T L m i (G i)=if lT m i=true then oL T L (m[i]?.getD .none).fr (wW p m i) (G i) (wW p m i).length else G i:=rfl
  have hak:=fun k=>Em p T L a b (m[i]?.getD .none) (mZ p T L m i (G i)) k
  have hsk2:=Ot p T L a b m i (G i)
  have hai: ∀k,k≤(m[i]?.getD .none).aH.length→oA (mZ p T L m i (G i)) (m[i]?.getD .none).fr→(gQ p T L (m[i]?.getD .none) (mZ p T L m i (G i)) k).k≤5000→oA (gQ p T L (m[i]?.getD .none) (mZ p T L m i (G i)) k) (if k<(m[i]?.getD .none).aH.length then((m[i]?.getD .none).aH[k]?.getD .none).fr else(m[i]?.getD .none).til):=fun k hk hs h=>Bj hT hL hAi ht3 hs k hk h
  unfold wW at hsk hss
  by_cases hstx:lT m i=true
  ·rw[hstx]at hS
   rw[if_pos hstx]at hsk hss
   have hk1:(m[i]?.getD Tk.none).kind=1:=by
    unfold lT at hstx
    simp only[Bool.and_eq_true,decide_eq_true_eq]at hstx
    exact hstx.1.1.1
   have hat0:(m[i]?.getD Tk.none).aH=[]:=hpl2 qD
   have hsin:=Bi hT hL hX hinI
   have hskj:=El T L (m[i]?.getD Tk.none).fr (inS (cR p ((m[i]?.getD Tk.none).fr,(m[i]?.getD Tk.none).til)) 0) (G i)
   have hsst: ∀j,oL T L (m[i]?.getD Tk.none).fr (inS (cR p ((m[i]?.getD Tk.none).fr,(m[i]?.getD Tk.none).til)) 0) (G i) (j+1)=CN T L (m[i]?.getD Tk.none).fr ((inS (cR p ((m[i]?.getD Tk.none).fr,(m[i]?.getD Tk.none).til)) 0)[j]?.getD (0,0)) (oL T L (m[i]?.getD Tk.none).fr (inS (cR p ((m[i]?.getD Tk.none).fr,(m[i]?.getD Tk.none).til)) 0) (G i) j):=fun _=>rfl
   repeat' (first|refine Wd ?_|(refine Wc ?_ ?_<;>intro hb<;>try simp at hb)|refine Zw hc (hf:=qaH) (hk:=?_)|refine Zq hc (hf:=qaH) (hk:=?_)|refine Wn ?_|fail)
   all_goals try contradiction
   all_goals try(exfalso;omega)
   generalize hHe:oL T L (m[i]?.getD Tk.none).fr (inS (cR p ((m[i]?.getD Tk.none).fr,(m[i]?.getD Tk.none).til)) 0) (G i)=H at*
   have hH0:H 0=G i:=by rw[←hHe];rfl
   generalize inS (cR p ((m[i]?.getD Tk.none).fr,(m[i]?.getD Tk.none).til)) 0=X0 at*
   clear hS hI hHe
   generalize htt:m[i]?.getD Tk.none=t at*
   refine aN (fun j:Nat=>⟨[(0,.bp 100000 0),(1,.d (str p)),(2,.d (dX m)),(3,.d (Bf L (H j).k)),(9,.os 40000 (H j).E.length),(11,.bp 11 0),(22,.d (dX m)),(23,.d (int m.length)),(24,.d (int i)),(40,.d (A0 X0)),(41,.d (int X0.length)),(42,.d (int j))],(11,.box 217 [.d (int t.kind),.d (int t.fr),.d (int t.til),.d (str t.name),.d (gP t.aH)])::(tur 100000 T (H j).n++[edO (H j).E])⟩) (fun j=>j≤X0.length) (fun j=>X0.length-j) 0 qE (aC [0,1,2,3,9,11,22,23,24,40,41,42] [11,100000,40000] qA qA (by simp[hH0])) ?_
   intro j hj
   obtain⟨e1,e2,e3,e4⟩:=hsin j hj
   have ek:=hskj j
   have es:=hsst j
   by_cases hjl:j<X0.length
   ·have hx:=hX.get j hjl
    have hTu:=sZ T hT (L[(H j).k]?.getD .none) (kM hL (H j).k) (H j).n qD
    unfold CN at es
    generalize hHj:H j=s at*
    obtain⟨sE,sk,sn⟩:=s
    simp only at e1 e2 e3 e4 ek es hTu⊢
    generalize r6 T (L[sk]?.getD .none)=tb at hTu es
    generalize r7 T (L[sk]?.getD .none)=tt at hTu es
    cases tb with
    |false=>
     rw[if_neg qK]at es
     simp only[Bool.false_eq_true,if_false]at hTu
     repeat' (first|refine Wd ?_|(refine Wc ?_ ?_<;>intro hb<;>try simp at hb)|refine Wm ?_|refine aF ([(100000,100000)]) (hTu) hc qA qA qA qA qA rfl qA qA rfl qE qE qA qA ?_|fail)
     all_goals try contradiction
     all_goals try(exfalso;omega)
     exact⟨j+1,qD,qD,aC [0,1,2,3,9,11,22,23,24,40,41,42] [11,100000,40000] qA qA (by simp[es,Nat.add_assoc,Nat.sub_sub])⟩
    |true=>
     rw[if_pos rfl]at es
     simp only[if_true]at hTu
     repeat' (first|refine Wd ?_|(refine Wc ?_ ?_<;>intro hb<;>try simp at hb)|refine Wm ?_|refine aF ([(100000,100000)]) (hTu) hc qA qA qA qA qA rfl qA qA rfl qE qE qA qA ?_|fail)
     all_goals try contradiction
     all_goals try(exfalso;omega)
     exact⟨j+1,qD,qD,aC [0,1,2,3,9,11,22,23,24,40,41,42] [11,100000,40000] qA qA (by simp[es,Nat.add_assoc,Nat.sub_sub])⟩
   ·obtain rfl:j=X0.length:=by omega
    rw[←hss]at*
    repeat' (first|refine Wd ?_|(refine Wc ?_ ?_<;>intro hb<;>try simp at hb)|refine Wm ?_|fail)
    all_goals try(exfalso;omega)
    clear hsin hskj hsst
    have hat:t.aH.length=0:=by rw[hat0];rfl
    generalize hSe:mZ p T L m i (G i)=S at*
    generalize hRe:gQ p T L t S=R at*
    have hR0:R 0=S:=by rw[←hRe];rfl
    have hRs: ∀k,R (k+1)=yA p T L t k (R k):=fun k=>by rw[←hRe];rfl
    refine aN (fun k:Nat=>⟨[(0,.bp 100000 0),(1,.d (str p)),(2,.d (dX m)),(3,.d (Bf L (R k).k)),(9,.os 40000 (R k).E.length),(11,.bp 11 0),(22,.d (dX m)),(23,.d (int m.length)),(24,.d (int i)),(77,.d (gP t.aH)),(78,.d (int t.aH.length)),(79,.d (int k))],(11,.box 217 [.d (int t.kind),.d (int t.fr),.d (int t.til),.d (str t.name),.d (gP t.aH)])::(tur 100000 T (R k).n++[edO (R k).E])⟩) (fun k=>k≤t.aH.length) (fun k=>t.aH.length-k) 0 qE (aC [0,1,2,3,9,11,22,23,24,77,78,79] [11,100000,40000] qA qA (by simp[hR0])) ?_
    intro k hk
    have hRk:=hak k
    by_cases hkl:k<t.aH.length
    ·exfalso;omega
    ·obtain rfl:k=t.aH.length:=by omega
     have hfin:G (i+1)=R t.aH.length:=hsti
     repeat' (first|refine Wd ?_|(refine Wc ?_ ?_<;>intro hb<;>try simp at hb)|refine Wm ?_|fail)
     all_goals try(exfalso;omega)
     exact⟨i+1,qD,qD,aC [0,1,2,3,9,22,23,24] [100000,40000] qA qA (by simp[hfin])⟩
  ·rw[Bool.eq_false_iff.2 hstx]at hS
   rw[if_neg hstx]at hsk hss
   repeat' (first|refine Wd ?_|(refine Wc ?_ ?_<;>intro hb<;>try simp at hb)|refine Zw hc (hf:=Qf) (hk:=?_)|refine Zq hc (hf:=Qf) (hk:=?_)|refine Wn ?_|fail)
   all_goals try contradiction
   all_goals try(exfalso;omega)
   clear hS hI
   generalize htt:m[i]?.getD Tk.none=t at*
   rw[←hss]at hinI
   rw[←hss]
   generalize hSe:mZ p T L m i (G i)=S at*
   generalize hRe:gQ p T L t S=R at*
   have hR0:R 0=S:=by rw[←hRe];rfl
   have hRs: ∀k,R (k+1)=yA p T L t k (R k):=fun k=>by rw[←hRe];rfl
   refine aN (fun k:Nat=>⟨[(0,.bp 100000 0),(1,.d (str p)),(2,.d (dX m)),(3,.d (Bf L (R k).k)),(9,.os 40000 (R k).E.length),(11,.bp 11 0),(22,.d (dX m)),(23,.d (int m.length)),(24,.d (int i)),(77,.d (gP t.aH)),(78,.d (int t.aH.length)),(79,.d (int k))],(11,.box 217 [.d (int t.kind),.d (int t.fr),.d (int t.til),.d (str t.name),.d (gP t.aH)])::(tur 100000 T (R k).n++[edO (R k).E])⟩) (fun k=>k≤t.aH.length) (fun k=>t.aH.length-k) 0 qE (aC [0,1,2,3,9,11,22,23,24,77,78,79] [11,100000,40000] qA qA (by simp[hR0])) ?_
   intro k hk
   have hRk:=hak k
   have hmo:=yB a b t hk
   have hRi:=hai k hk hinI qD
   by_cases hkl:k<t.aH.length
   ·rw[if_pos hkl]at hRi
    have hmem:(t.aH[k]?.getD Atr.none)∈t.aH:=by rw[List.getElem?_eq_getElem hkl];exact List.getElem_mem hkl
    have hkd:t.kind=2:=Classical.byContradiction fun e=>by rw[hpl2 e]at hkl;simp at hkl
    have hav:=ht3 _ hmem
    have hK:=wU t (t.aH[k]?.getD Atr.none).name (sX t ht2 ht3)
    have hF:=sY t k ht2 hkl
    have hke2:dD t (t.aH[k]?.getD Atr.none).name≤9:=A4 (pT t.aH) (t.aH[k]?.getD Atr.none).name t.name
    have hSp:=A8 (dD t (t.aH[k]?.getD Atr.none).name) (t.aH[k]?.getD Atr.none).val hke2 hav
    have hO:=nZ (dD t (t.aH[k]?.getD Atr.none).name) (t.aH[k]?.getD Atr.none).val
    have hRn:=hRs k
    have hak1:=hak (k+1)
    have hmo1:=yB a b t (show k+1≤t.aH.length by omega)
    have hne:R (k+1)=if dD t (t.aH[k]?.getD Atr.none).name≠0∧mB t.aH k=true then⟨if(oP T L t k (R k).k).any=true then(R k).E++[⟨(t.aH[k]?.getD .none).fr,(t.aH[k]?.getD .none).til,Bh p (t.aH[k]?.getD .none).fr ((oP T L t k (R k).k).out++(t.aH[k]?.getD .none).val.drop (oP T L t k (R k).k).fr)⟩]else(R k).E,(R k).k+(yO t k).length,(R k).n+(oP T L t k (R k).k).many⟩else R k:=by
     rw[hRn]
     unfold yA Ja
     simp only[hkd,Bool.and_eq_true,decide_eq_true_eq,true_and]
    clear hRn
    obtain⟨e1,e2,e3,e4⟩:=hRi
    have hOA:=Ord.get hAi.ord k (by simpa using hkl)
    rw[List.getElem?_map,List.getElem?_eq_getElem hkl]at hOA
    have hOB:0<(t.aH[k]?.getD .none).fr∧(t.aH[k]?.getD .none).fr≤(t.aH[k]?.getD .none).til∧(t.aH[k]?.getD .none).til≤t.til:=by
     have h0:=Ou hAi k hkl
     rw[List.getElem?_eq_getElem hkl]at h0⊢
     exact⟨h0,hOA.2⟩
    have hV0:dD t (t.aH[k]?.getD Atr.none).name≠0∧mB t.aH k=true→(R k).k+(fR (dD t (t.aH[k]?.getD Atr.none).name) (t.aH[k]?.getD Atr.none).val).length≤L.length:=fun h=>by
     rw[if_pos h]at hne
     rw[hne]at hak1
     unfold yO at hak1
     simp only at hak1
     omega
    have hvi:=Kn hT hL t k (R k).k
    have hvd:oP T L t k (R k).k=eQ T (t.aH[k]?.getD .none).val (fR (dD t (t.aH[k]?.getD Atr.none).name) (t.aH[k]?.getD Atr.none).val) (fun j=>L[(R k).k+j]?.getD .none) (fR (dD t (t.aH[k]?.getD Atr.none).name) (t.aH[k]?.getD Atr.none).val).length:=rfl
    have hax:yO t k=fR (dD t (t.aH[k]?.getD Atr.none).name) (t.aH[k]?.getD Atr.none).val:=rfl
    generalize oP T L t k (R k).k=W at hne hvi hvd
    rw[hax]at hne hvi
    clear hax
    generalize dD t (t.aH[k]?.getD Atr.none).name=kd at hK hke2 hSp hO hne hV0 hvi hvd
    generalize mB t.aH k=fb at hF hne hV0
    generalize hX2:fR kd (t.aH[k]?.getD Atr.none).val=X at hSp hO hne hV0 hvi hvd
    by_cases hk0:kd=0
    ·rw[if_neg (fun h=>h.1 hk0)]at hne
     repeat' (first|refine Wd ?_|(refine Wc ?_ ?_<;>intro hb<;>try simp at hb)|refine Zw hc (hf:=qS) (hk:=?_)|refine Zq hc (hf:=qS) (hk:=?_)|refine Wm ?_|fail)
     all_goals try contradiction
     all_goals try(exfalso;omega)
     exact⟨k+1,qD,qD,aC [0,1,2,3,9,11,22,23,24,77,78,79] [11,100000,40000] qA qA (by simp[hne])⟩
    cases fb with
    |false=>
     rw[if_neg (fun h=>by cases h.2)]at hne
     repeat' (first|refine Wd ?_|(refine Wc ?_ ?_<;>intro hb<;>try simp at hb)|refine Zw hc (hf:=qS) (hk:=?_)|refine Zq hc (hf:=qS) (hk:=?_)|refine Wm ?_|fail)
     all_goals try contradiction
     all_goals try(exfalso;omega)
     exact⟨k+1,qD,qD,aC [0,1,2,3,9,11,22,23,24,77,78,79] [11,100000,40000] qA qA (by simp[hne])⟩
    |true=>
     rw[if_pos ⟨hk0,rfl⟩]at hne
     have hV1:=hV0 ⟨hk0,rfl⟩
     have hVa:=Oo T hT (t.aH[k]?.getD .none).val hav X hO L (R k).k hV1 h5 hL (R k).n qD
     rw[←hvd]at hVa
     clear hvd hV0 hak hai hmo hmo1 hRs
     generalize hRke:R k=r at*
     obtain⟨rE,rk,rn⟩:=r
     obtain⟨wo,wf,wa,wn⟩:=W
     simp only at e1 e2 e3 e4 hne hVa hvi hV1 hRk⊢
     obtain⟨v1,v2,v3,v4,v5⟩:=hvi
     have hW:=Jd p (t.aH[k]?.getD .none).fr (t.aH[k]?.getD .none).til hOB.1 qD hpl (wo++(t.aH[k]?.getD .none).val.drop wf) Qy
     cases wa with
     |false=>
      rw[if_neg qK]at hne
      repeat' (first|refine Wd ?_|(refine Wc ?_ ?_<;>intro hb<;>try simp at hb)|refine Zw hc (hf:=qX) (hk:=?_)|refine Zq hc (hf:=qX) (hk:=?_)|refine Wm ?_|refine aF ([(100000,100000)]) (hVa) hc qA qA qA qA qA rfl qA qA rfl qE qE qA qA ?_|fail)
      all_goals try contradiction
      all_goals try(exfalso;omega)
      exact⟨k+1,qD,qD,aC [0,1,2,3,9,11,22,23,24,77,78,79] [11,100000,40000] qA qA (by simp[hne,Nat.add_assoc,Nat.sub_sub])⟩
     |true=>
      rw[if_pos rfl]at hne
      repeat' (first|refine Wd ?_|(refine Wc ?_ ?_<;>intro hb<;>try simp at hb)|refine Zw hc (hf:=qX) (hk:=?_)|refine Zq hc (hf:=qX) (hk:=?_)|refine Wm ?_|refine aF ([(100000,100000)]) (hVa) hc qA qA qA qA qA rfl qA qA rfl qE qE qA qA ?_|fail)
      all_goals try contradiction
      all_goals try(exfalso;omega)
      generalize hwr:Bh p (t.aH[k]?.getD .none).fr (wo++(t.aH[k]?.getD .none).val.drop wf)=wr at hne hW
      refine bA (aG [0,1,2,3,9,11,17,19,20,22,23,24,77,78,79] [11,17,100000,40000] qA qA) ?_
      clear hVa hSp hK hF e1 e4 v1 hin hkk hst hkl2
      (apply Xd 12 hc;(focus(refine Xm 0 hc (hk:=?_);refine Xp 1 hc (hk:=?_);refine Xm 3 hc (hk:=?_);refine Xp 4 hc (hk:=?_);refine Xm 6 hc (hk:=?_);refine aI 5 [5,7,8,9,10,11] hc rfl qC rfl qA qF qE qA ?_;refine Xa [2,7] (hx:=?_);refine⟨?_,?_⟩;(focus(refine Xw hc (hk:=?q220);refine Xa [7] (hx:=?nq220);(focus(refine Xc hc (hf:=hW) (hk:=?q221);refine Xp 8 hc (hk:=?nq221);refine Xa [9] (hx:=?_);(focus(refine Xw hc (hk:=?q222);refine Xa [10] (hx:=?nq222);(focus(refine Xw hc (hk:=?q223);refine Xm 11 hc (hk:=?nq223);refine Xz (hk:=?_);exact Xk [0,1,2,3,9,11,19,22,23,24,77,78,79] [11,100000,40000]))))))));(focus(refine Xc hc (hf:=hW) (hk:=?q224);refine aI 2 [2,8,9,10,11] hc rfl qC rfl qA qF qE qA ?nq224;refine Xp 8 hc (hk:=?_);refine Xa [9] (hx:=?_);(focus(refine Xw hc (hk:=?_);exact Xq ?q222)))))))
      repeat' (first|refine Wd ?_|(refine Wc ?_ ?_<;>intro hb<;>try simp at hb)|refine Wm ?_|fail)
      exact⟨k+1,qD,qD,aC [0,1,2,3,9,11,22,23,24,77,78,79] [11,100000,40000] qA qA (by simp[hne,Nat.add_assoc,Nat.sub_sub])⟩
   ·obtain rfl:k=t.aH.length:=by omega
    have hfin:G (i+1)=R t.aH.length:=hsti
    repeat' (first|refine Wd ?_|(refine Wc ?_ ?_<;>intro hb<;>try simp at hb)|refine Wm ?_|fail)
    all_goals try(exfalso;omega)
    exact⟨i+1,qD,qD,aC [0,1,2,3,9,22,23,24] [100000,40000] qA qA (by simp[hfin])⟩
 ·obtain rfl:i=m.length:=by omega
  generalize hgj:G m.length=s at*
  obtain⟨sE,sk,sn⟩:=s
  (first|refine rB 40000 hc qA qE ?_|refine tN 40000 hc qA qE ?_)
  repeat' (first|refine Wd ?_|(refine Wc ?_ ?_<;>intro hb<;>try simp at hb)|refine Wm ?_|fail)
  all_goals try(exfalso;omega)
  (refine aE [100000] hc (aR rfl) qA qA qJ ?_)
  simp
end Go.Proofs.YtdjfgcjlnfnfhaaGreatDoor
