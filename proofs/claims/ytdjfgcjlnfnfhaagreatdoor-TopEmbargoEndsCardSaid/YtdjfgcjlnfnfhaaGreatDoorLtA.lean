/- PAGE: turns: isNormal, CheckTurns. (WITH run_drawN.) -/
import Derived.Test.YtdjfgcjlnfnfhaaGreatDoorLkC
import Derived.Test.YtdjfgcjlnfnfhaaGreatDoorKeyP
import Derived.Test.YtdjfgcjlnfnfhaaGreatDoorAdA
import Derived.Test.YtdjfgcjlnfnfhaaGreatDoorMsH
import Derived.Shelf.SlIter.Nil
import Derived.Shelf.SortM.Plain
import Derived.Shelf.SortM.SortNone
import Derived.Ground.GgzProg
import Derived.Ground.SlgmProg
import Derived.Test.YtdjfgcjlnfnfhaaGreatDoorProg
import Derived.Test.YtdjfgcjlnfnfhaaGreatDoorLwEx
import Derived.Test.YtdjfgcjlnfnfhaaGreatDoorMsE
import Derived.Test.YtdjfgcjlnfnfhaaGreatDoorPgAtt
set_option linter.unusedSimpArgs false
set_option linter.unusedVariables false
namespace Go.Proofs.YtdjfgcjlnfnfhaaGreatDoor
open Go.Lw Go.RowKit
set_option maxRecDepth 100000
set_option maxHeartbeats 2000000
structure Rw (p:Bs) (m:List Tk):Prop where
 len:p.length≤200000
 fit:Sm m
 ins: ∀i,i<m.length→(m[i]?.getD Tk.none).fr≤(m[i]?.getD Tk.none).til∧(m[i]?.getD Tk.none).til≤p.length
 plain: ∀i:Nat,(m[i]?.getD Tk.none).kind≠2→(m[i]?.getD Tk.none).aH=[]
theorem LU (p:Bs) (a b:Adr) (q:Nat) (X:List (Nat×Nat)) (j:Nat) (hj:j<X.length):
 (X.take (j+1)).map (fun x=>iB a b 9 (cR p (q+x.1,q+x.2)) (q+x.1) (q+x.2))=(X.take j).map (fun x=>iB a b 9 (cR p (q+x.1,q+x.2)) (q+x.1) (q+x.2))++[iB a b 9 (cR p (q+(X[j]?.getD (0,0)).1,q+(X[j]?.getD (0,0)).2)) (q+(X[j]?.getD (0,0)).1) (q+(X[j]?.getD (0,0)).2)]:=by
 rw[List.take_succ_eq_append_getElem hj,List.map_append,List.getElem?_eq_getElem hj]
 rfl
theorem CJ (a b:Adr) (k:Nat) (v:Bs) (f t:Nat) (X:List (Nat×Nat)) (j:Nat) (hj:j<X.length):
 (X.take (j+1)).map (fun x=>iB a b k (cR v x) f t)=(X.take j).map (fun x=>iB a b k (cR v x) f t)++[iB a b k (cR v (X[j]?.getD (0,0))) f t]:=by
 rw[List.take_succ_eq_append_getElem hj,List.map_append,List.getElem?_eq_getElem hj]
 rfl
theorem CK (b:Adr) (s:Bs):(mA b s).1.Fits:=by
 have hz:Adr.zero.Fits:=⟨qE,qE,qE,qE,qE,qE⟩
 unfold mA
 split
 ·exact hz
 split
 ·exact hz
 generalize ND b (nU s)=x
 unfold DN
 split
 ·exact hz
 split
 ·exact hz
 ·rename_i h
  obtain⟨q1,q2,q3,q4,q5,q6⟩:=rI (Classical.not_not.1 h)
  have hu:=wK x.1.path
  exact⟨qI,qI,qI,qI,qI,qI⟩
theorem LV {m:List Tk} {a:Adr} (ha:a.Fits): ∀n i,m.length-i≤n→(fH m a i).Fits:=by
 intro n
 induction n with
 |zero=>intro i hi;rw[fH,if_neg qD];exact ha
 |succ n ih=>
  intro i hi
  rw[fH]
  split
  ·split
   ·split
    ·exact CK _ _
    ·exact ha
   ·exact ih (i+1) qD
  ·exact ha
theorem Oe (p:Bs) (m:List Tk) (a:Adr) (ha:a.Fits) (hm:Rw p m):aJ Tryz.prog 108 [str p,dX m,dI a] (oK (iC p a m)):=by
 refine aW Tryz.func108 rfl qC Tryz.ntmps108 _ rfl qE fun C hc=>?_
 have hB:=Rv m a ha hm.fit
 have hbf:(fH m a 0).Fits:=LV ha m.length 0 qD
 obtain⟨hpl,hf,hin,hpa⟩:=hm
 have hml:=hf.len
 unfold iC
 generalize fH m a 0=b at hB hbf⊢
 repeat' (first|refine Wd ?_|(refine Wc ?_ ?_<;>intro hb<;>try simp at hb)|(refine dC 4 hc qC qC ?_;try simp only[List.take_succ_cons,List.take_zero,List.drop_succ_cons,List.drop_zero])|refine Zw hc (hf:=by exact hB) (hk:=?_)|refine Zq hc (hf:=by exact hB) (hk:=?_)|refine Wn ?_|fail)
 refine aN (fun x:Nat×List Lnk=>⟨[(0,.d (str p)),(1,.d (dX m)),(6,.d fQ),(7,.bp 23 0),(24,.d (dX m)),(25,.d (int m.length)),(26,.d (int x.1))],fnd 23 40000 a b x.2⟩) (fun x=>x.1≤m.length∧x.2=eC p a b m x.1∧jV p a b m 0=jV p a b m x.1∧x.2.length≤5000) (fun x=>m.length-x.1) (0,[]) (by simp[eC]) (cQ [(23,some 16,40000,118,dfL)] [0,1,6,7,24,25,26] [23,40000] qA qA qA) ?_
 clear hB
 rintro⟨i,M0⟩ ⟨hi,hA,hS0,hM0⟩
 simp only at hi hA hS0 hM0⊢
 have hstp:jV p a b m i=if i<m.length then(if 5000<(eC p a b m (i+1)).length then i+1 else jV p a b m (i+1))else m.length:=by rw[jV]
 by_cases hil:i<m.length
 ·have hS:=uW m i hml hil
  obtain⟨ht0,ht1⟩:=hin i hil
  have ht2:=hf.aH i
  have ht3:=hf.Ru i
  have hpl2:=hpa i
  have hI:=nY (cR p ((m[i]?.getD Tk.none).fr,(m[i]?.getD Tk.none).til)) (Nat.le_trans (mW _ _) hpl)
  have hO0:=lS (cR p ((m[i]?.getD Tk.none).fr,(m[i]?.getD Tk.none).til)) 0 (Nat.zero_le _)
  have lX0:=pU (cR p ((m[i]?.getD Tk.none).fr,(m[i]?.getD Tk.none).til)) 0
  have hsl:lU p a b m i=if lT m i=true then(inS (cR p ((m[i]?.getD Tk.none).fr,(m[i]?.getD Tk.none).til)) 0).map (fun x=>iB a b 9 (cR p ((m[i]?.getD Tk.none).fr+x.1,(m[i]?.getD Tk.none).fr+x.2)) ((m[i]?.getD Tk.none).fr+x.1) ((m[i]?.getD Tk.none).fr+x.2))else[]:=rfl
  have lcut:(cR p ((m[i]?.getD Tk.none).fr,(m[i]?.getD Tk.none).til)).length=(m[i]?.getD Tk.none).til-(m[i]?.getD Tk.none).fr:=by simp[cR];omega
  generalize inS (cR p ((m[i]?.getD Tk.none).fr,(m[i]?.getD Tk.none).til)) 0=X0 at hI hO0 lX0 hsl
  by_cases hst:lT m i=true
  ·rw[hst]at hS hsl
   rw[if_pos rfl]at hsl
   repeat' (first|refine Wd ?_|(refine Wc ?_ ?_<;>intro hb<;>try simp at hb)|refine Zw hc (hf:=qaH) (hk:=?_)|refine Zq hc (hf:=qaH) (hk:=?_)|refine Wn ?_|fail)
   all_goals try contradiction
   all_goals try(exfalso;omega)
   clear hS hI
   generalize htt:m[i]?.getD Tk.none=t at*
   refine aN (fun x:Nat×List Lnk=>⟨[(0,.d (str p)),(1,.d (dX m)),(6,.d fQ),(7,.bp 23 0),(8,.d (int i)),(9,.bp 9 0),(24,.d (dX m)),(25,.d (int m.length)),(26,.d (int i)),(42,.d (A0 X0)),(43,.d (int X0.length)),(44,.d (int x.1))],(9,.box 217 [.d (int t.kind),.d (int t.fr),.d (int t.til),.d (str t.name),.d (gP t.aH)])::fnd 23 40000 a b x.2⟩) (fun x=>x.1≤X0.length∧x.2=M0++(X0.take x.1).map fun x=>iB a b 9 (cR p (t.fr+x.1,t.fr+x.2)) (t.fr+x.1) (t.fr+x.2)) (fun x=>X0.length-x.1) (0,M0) qE (aC [0,1,6,7,8,9,24,25,26,42,43,44] [9,23,40000] qA qA qE) ?_
   rintro⟨j,N⟩ ⟨hj,hN⟩
   simp only at hj hN⊢
   have lN:N.length≤5000+j:=by rw[hN];simp;omega
   by_cases hjl:j<X0.length
   ·have hx:=hO0.get j hjl
    have hcl:=mW p (t.fr+(X0[j]?.getD (0,0)).1,t.fr+(X0[j]?.getD (0,0)).2)
    have hn:=LU p a b t.fr X0 j hjl
    have hadd:=Ee a b ha hbf N 9 (cR p (t.fr+(X0[j]?.getD (0,0)).1,t.fr+(X0[j]?.getD (0,0)).2)) (t.fr+(X0[j]?.getD (0,0)).1) (t.fr+(X0[j]?.getD (0,0)).2) qD qD qD
    generalize hnew:iB a b 9 (cR p (t.fr+(X0[j]?.getD (0,0)).1,t.fr+(X0[j]?.getD (0,0)).2)) (t.fr+(X0[j]?.getD (0,0)).1) (t.fr+(X0[j]?.getD (0,0)).2)=new at hn hadd
    repeat' (first|refine Wd ?_|(refine Wc ?_ ?_<;>intro hb<;>try simp at hb)|(refine dC 8 hc qC qC ?_;try simp only[List.take_succ_cons,List.take_zero,List.drop_succ_cons,List.drop_zero])|refine Wn ?_|refine aF ([(100000,23),(50001,40000)]) (hadd) hc qA qA qA qA qA rfl qA qA rfl qE qE qA qA ?_|fail)
    all_goals try(exfalso;omega)
    exact⟨(j+1,N++[new]),⟨qI,QX⟩,qI,aC [0,1,6,7,8,9,24,25,26,42,43,44] [9,23,40000] qA qA qE⟩
   ·obtain rfl:j=X0.length:=by omega
    rw[List.take_length]at hN
    rw[←hsl]at hN
    have lM1:N.length≤205000:=by omega
    repeat' (first|refine Wd ?_|(refine Wc ?_ ?_<;>intro hb<;>try simp at hb)|refine Wn ?_|fail)
    all_goals try(exfalso;omega)
    clear hO0 lX0 hjl hj lN lcut
    clear hsl
    generalize hMe:N=M1 at*
    have hM1:=hN
    clear hMe
    refine aN (fun x:Nat×List Lnk=>⟨[(0,.d (str p)),(1,.d (dX m)),(6,.d fQ),(7,.bp 23 0),(8,.d (int i)),(9,.bp 9 0),(24,.d (dX m)),(25,.d (int m.length)),(26,.d (int i)),(72,.d (gP t.aH)),(73,.d (int t.aH.length)),(74,.d (int x.1))],(9,.box 217 [.d (int t.kind),.d (int t.fr),.d (int t.til),.d (str t.name),.d (gP t.aH)])::fnd 23 40000 a b x.2⟩) (fun x=>x.1≤t.aH.length∧x.2=M1++cO a b t x.1) (fun x=>t.aH.length-x.1) (0,M1) (by simp[cO]) (aC [0,1,6,7,8,9,24,25,26,72,73,74] [9,23,40000] qA qA qE) ?_
    rintro⟨k,M⟩ ⟨hk,hM⟩
    simp only at hk hM⊢
    have lA:=sW a b t ht3 k
    have lM:M.length≤50000000000:=by
     have lk2:k*200002≤40000400000:=by omega
     rw[hM,List.length_append]
     omega
    clear lA
    by_cases hkl:k<t.aH.length
    ·have hmem:(t.aH[k]?.getD Atr.none)∈t.aH:=by rw[List.getElem?_eq_getElem hkl];exact List.getElem_mem hkl
     have hkd:t.kind=2:=Classical.byContradiction fun e=>by rw[hpl2 e]at hkl;simp at hkl
     have hav:=ht3 _ hmem
     have hK:=wU t (t.aH[k]?.getD Atr.none).name (sX t ht2 ht3)
     have hF:=sY t k ht2 hkl
     have hke:=A4 (pT t.aH) (t.aH[k]?.getD Atr.none).name t.name
     have hke2:dD t (t.aH[k]?.getD Atr.none).name≤9:=hke
     have hSp:=A8 (dD t (t.aH[k]?.getD Atr.none).name) (t.aH[k]?.getD Atr.none).val hke2 hav
     have hnx:cO a b t (k+1)=cO a b t k++jZ a b t k:=rfl
     have hO:=nZ (dD t (t.aH[k]?.getD Atr.none).name) (t.aH[k]?.getD Atr.none).val
     have lX:=sV (dD t (t.aH[k]?.getD Atr.none).name) (t.aH[k]?.getD Atr.none).val
     have hat:jZ a b t k=if dD t (t.aH[k]?.getD Atr.none).name≠0∧mB t.aH k=true then(fR (dD t (t.aH[k]?.getD Atr.none).name) (t.aH[k]?.getD Atr.none).val).map (fun x=>iB a b (dD t (t.aH[k]?.getD Atr.none).name) (cR (t.aH[k]?.getD Atr.none).val x) (t.aH[k]?.getD Atr.none).fr (t.aH[k]?.getD Atr.none).til)else[]:=by
      unfold jZ Ja
      simp only[hkd,Bool.and_eq_true,decide_eq_true_eq,true_and]
     generalize dD t (t.aH[k]?.getD Atr.none).name=kd at hK hke2 hSp hO lX hat
     generalize mB t.aH k=fb at hF hat
     generalize hX:fR kd (t.aH[k]?.getD Atr.none).val=X at hSp hO lX hat
     clear hke
     by_cases hk0:kd=0
     ·rw[if_neg (fun h=>h.1 hk0)]at hat
      repeat' (first|refine Wd ?_|(refine Wc ?_ ?_<;>intro hb<;>try simp at hb)|refine Zw hc (hf:=qS) (hk:=?_)|refine Zq hc (hf:=qS) (hk:=?_)|refine Wm ?_|fail)
      all_goals try contradiction
      all_goals try(exfalso;omega)
      exact⟨(k+1,M),⟨qI,Qq⟩,qI,aC [0,1,6,7,8,9,24,25,26,72,73,74] [9,23,40000] qA qA qE⟩
     cases fb with
     |false=>
      rw[if_neg (fun h=>by cases h.2)]at hat
      repeat' (first|refine Wd ?_|(refine Wc ?_ ?_<;>intro hb<;>try simp at hb)|refine Zw hc (hf:=qS) (hk:=?_)|refine Zq hc (hf:=qS) (hk:=?_)|refine Wn ?_|fail)
      all_goals try contradiction
      all_goals try(exfalso;omega)
      exact⟨(k+1,M),⟨qI,Qq⟩,qI,aC [0,1,6,7,8,9,24,25,26,72,73,74] [9,23,40000] qA qA qE⟩
     |true=>
      rw[if_pos ⟨hk0,rfl⟩]at hat
      repeat' (first|refine Wd ?_|(refine Wc ?_ ?_<;>intro hb<;>try simp at hb)|refine Zw hc (hf:=qX) (hk:=?_)|refine Zq hc (hf:=qX) (hk:=?_)|refine Wn ?_|fail)
      all_goals try contradiction
      all_goals try(exfalso;omega)
      refine aN (fun x:Nat×List Lnk=>⟨[(0,.d (str p)),(1,.d (dX m)),(6,.d fQ),(7,.bp 23 0),(8,.d (int i)),(9,.bp 9 0),(14,.bp 14 0),(15,.d (int kd)),(24,.d (dX m)),(25,.d (int m.length)),(26,.d (int i)),(72,.d (gP t.aH)),(73,.d (int t.aH.length)),(74,.d (int k)),(99,.d (A0 X)),(100,.d (int X.length)),(101,.d (int x.1))],(9,.box 217 [.d (int t.kind),.d (int t.fr),.d (int t.til),.d (str t.name),.d (gP t.aH)])::(14,.box 220 [.d (str (t.aH[k]?.getD Atr.none).name),.d (str (t.aH[k]?.getD Atr.none).val),.d (int (t.aH[k]?.getD Atr.none).fr),.d (int (t.aH[k]?.getD Atr.none).til),.d (tru (t.aH[k]?.getD Atr.none).has)])::fnd 23 40000 a b x.2⟩) (fun x=>x.1≤X.length∧x.2=M++(X.take x.1).map fun x=>iB a b kd (cR (t.aH[k]?.getD Atr.none).val x) (t.aH[k]?.getD Atr.none).fr (t.aH[k]?.getD Atr.none).til) (fun x=>X.length-x.1) (0,M) qE (aC [0,1,6,7,8,9,14,15,24,25,26,72,73,74,99,100,101] [9,14,23,40000] qA qA qE) ?_
      clear hK hF hSp
      rintro⟨j,N⟩ ⟨hj,hN⟩
      simp only at hj hN⊢
      have lN:N.length≤M.length+200002:=by rw[hN];simp;omega
      by_cases hjl:j<X.length
      ·have hx:=hO.get j hjl
       have hcl:=mW (t.aH[k]?.getD Atr.none).val (X[j]?.getD (0,0))
       have hn:=CJ a b kd (t.aH[k]?.getD Atr.none).val (t.aH[k]?.getD Atr.none).fr (t.aH[k]?.getD Atr.none).til X j hjl
       have hadd:=Ee a b ha hbf N kd (cR (t.aH[k]?.getD Atr.none).val (X[j]?.getD (0,0))) (t.aH[k]?.getD Atr.none).fr (t.aH[k]?.getD Atr.none).til qD qD hke2
       generalize hnew:iB a b kd (cR (t.aH[k]?.getD Atr.none).val (X[j]?.getD (0,0))) (t.aH[k]?.getD Atr.none).fr (t.aH[k]?.getD Atr.none).til=new at hn hadd
       repeat' (first|refine Wd ?_|(refine Wc ?_ ?_<;>intro hb<;>try simp at hb)|(refine dC 11 hc qC qC ?_;try simp only[List.take_succ_cons,List.take_zero,List.drop_succ_cons,List.drop_zero])|refine Wn ?_|refine aF ([(100000,23),(50001,40000)]) (hadd) hc qA qA qA qA qA rfl qA qA rfl qE qE qA qA ?_|fail)
       all_goals try(exfalso;omega)
       exact⟨(j+1,N++[new]),⟨qI,QX⟩,qI,aC [0,1,6,7,8,9,14,15,24,25,26,72,73,74,99,100,101] [9,14,23,40000] qA qA qE⟩
      ·obtain rfl:j=X.length:=by omega
       rw[List.take_length]at hN
       rw[←hat]at hN
       repeat' (first|refine Wd ?_|(refine Wc ?_ ?_<;>intro hb<;>try simp at hb)|refine Wn ?_|fail)
       all_goals try(exfalso;omega)
       exact⟨(k+1,N),⟨qI,qaI⟩,qI,aC [0,1,6,7,8,9,24,25,26,72,73,74] [9,23,40000] qA qA qE⟩
    ·obtain rfl:k=t.aH.length:=by omega
     have hfin:eC p a b m (i+1)=M:=by
      show eC p a b m i++A5 p a b m i=M
      unfold A5
      rw[hM,htt,←hA,←List.append_assoc,←hM1]
     repeat' (first|refine Wd ?_|(refine Wc ?_ ?_<;>intro hb<;>try simp at hb)|refine Wn ?_|fail)
     all_goals try(exfalso;omega)
     ·rw[hS0,hstp,if_pos hil,if_pos (by rw[hfin];omega),hfin]
      (refine Zl hc (hr:=?_))
      simp
     ·exact⟨(i+1,M),⟨qI,hfin.symm,qaB,qI⟩,qI,aC [0,1,6,7,24,25,26] [23,40000] qA qA qE⟩
  ·rw[Bool.eq_false_iff.2 hst]at hS
   rw[if_neg hst]at hsl
   repeat' (first|refine Wd ?_|(refine Wc ?_ ?_<;>intro hb<;>try simp at hb)|refine Zw hc (hf:=Qf) (hk:=?_)|refine Zq hc (hf:=Qf) (hk:=?_)|refine Wn ?_|fail)
   all_goals try contradiction
   all_goals try(exfalso;omega)
   clear hS hI
   generalize htt:m[i]?.getD Tk.none=t at*
   obtain⟨M1,hM1',lM1⟩: ∃M1,M0=M1∧M1.length≤205000:=⟨M0,rfl,qD⟩
   have hM1:M1=M0++lU p a b m i:=by rw[hsl,List.append_nil];exact hM1'.symm
   rw[hM1']
   clear hO0 lX0 lcut hsl
   refine aN (fun x:Nat×List Lnk=>⟨[(0,.d (str p)),(1,.d (dX m)),(6,.d fQ),(7,.bp 23 0),(8,.d (int i)),(9,.bp 9 0),(24,.d (dX m)),(25,.d (int m.length)),(26,.d (int i)),(72,.d (gP t.aH)),(73,.d (int t.aH.length)),(74,.d (int x.1))],(9,.box 217 [.d (int t.kind),.d (int t.fr),.d (int t.til),.d (str t.name),.d (gP t.aH)])::fnd 23 40000 a b x.2⟩) (fun x=>x.1≤t.aH.length∧x.2=M1++cO a b t x.1) (fun x=>t.aH.length-x.1) (0,M1) (by simp[cO]) (aC [0,1,6,7,8,9,24,25,26,72,73,74] [9,23,40000] qA qA qE) ?_
   rintro⟨k,M⟩ ⟨hk,hM⟩
   simp only at hk hM⊢
   have lA:=sW a b t ht3 k
   have lM:M.length≤50000000000:=by
    have lk2:k*200002≤40000400000:=by omega
    rw[hM,List.length_append]
    omega
   clear lA
   by_cases hkl:k<t.aH.length
   ·have hmem:(t.aH[k]?.getD Atr.none)∈t.aH:=by rw[List.getElem?_eq_getElem hkl];exact List.getElem_mem hkl
    have hkd:t.kind=2:=Classical.byContradiction fun e=>by rw[hpl2 e]at hkl;simp at hkl
    have hav:=ht3 _ hmem
    have hK:=wU t (t.aH[k]?.getD Atr.none).name (sX t ht2 ht3)
    have hF:=sY t k ht2 hkl
    have hke:=A4 (pT t.aH) (t.aH[k]?.getD Atr.none).name t.name
    have hke2:dD t (t.aH[k]?.getD Atr.none).name≤9:=hke
    have hSp:=A8 (dD t (t.aH[k]?.getD Atr.none).name) (t.aH[k]?.getD Atr.none).val hke2 hav
    have hnx:cO a b t (k+1)=cO a b t k++jZ a b t k:=rfl
    have hO:=nZ (dD t (t.aH[k]?.getD Atr.none).name) (t.aH[k]?.getD Atr.none).val
    have lX:=sV (dD t (t.aH[k]?.getD Atr.none).name) (t.aH[k]?.getD Atr.none).val
    have hat:jZ a b t k=if dD t (t.aH[k]?.getD Atr.none).name≠0∧mB t.aH k=true then(fR (dD t (t.aH[k]?.getD Atr.none).name) (t.aH[k]?.getD Atr.none).val).map (fun x=>iB a b (dD t (t.aH[k]?.getD Atr.none).name) (cR (t.aH[k]?.getD Atr.none).val x) (t.aH[k]?.getD Atr.none).fr (t.aH[k]?.getD Atr.none).til)else[]:=by
     unfold jZ Ja
     simp only[hkd,Bool.and_eq_true,decide_eq_true_eq,true_and]
    generalize dD t (t.aH[k]?.getD Atr.none).name=kd at hK hke2 hSp hO lX hat
    generalize mB t.aH k=fb at hF hat
    generalize hX:fR kd (t.aH[k]?.getD Atr.none).val=X at hSp hO lX hat
    clear hke
    by_cases hk0:kd=0
    ·rw[if_neg (fun h=>h.1 hk0)]at hat
     repeat' (first|refine Wd ?_|(refine Wc ?_ ?_<;>intro hb<;>try simp at hb)|refine Zw hc (hf:=qS) (hk:=?_)|refine Zq hc (hf:=qS) (hk:=?_)|refine Wm ?_|fail)
     all_goals try contradiction
     all_goals try(exfalso;omega)
     exact⟨(k+1,M),⟨qI,Qq⟩,qI,aC [0,1,6,7,8,9,24,25,26,72,73,74] [9,23,40000] qA qA qE⟩
    cases fb with
    |false=>
     rw[if_neg (fun h=>by cases h.2)]at hat
     repeat' (first|refine Wd ?_|(refine Wc ?_ ?_<;>intro hb<;>try simp at hb)|refine Zw hc (hf:=qS) (hk:=?_)|refine Zq hc (hf:=qS) (hk:=?_)|refine Wn ?_|fail)
     all_goals try contradiction
     all_goals try(exfalso;omega)
     exact⟨(k+1,M),⟨qI,Qq⟩,qI,aC [0,1,6,7,8,9,24,25,26,72,73,74] [9,23,40000] qA qA qE⟩
    |true=>
     rw[if_pos ⟨hk0,rfl⟩]at hat
     repeat' (first|refine Wd ?_|(refine Wc ?_ ?_<;>intro hb<;>try simp at hb)|refine Zw hc (hf:=qX) (hk:=?_)|refine Zq hc (hf:=qX) (hk:=?_)|refine Wn ?_|fail)
     all_goals try contradiction
     all_goals try(exfalso;omega)
     refine aN (fun x:Nat×List Lnk=>⟨[(0,.d (str p)),(1,.d (dX m)),(6,.d fQ),(7,.bp 23 0),(8,.d (int i)),(9,.bp 9 0),(14,.bp 14 0),(15,.d (int kd)),(24,.d (dX m)),(25,.d (int m.length)),(26,.d (int i)),(72,.d (gP t.aH)),(73,.d (int t.aH.length)),(74,.d (int k)),(99,.d (A0 X)),(100,.d (int X.length)),(101,.d (int x.1))],(9,.box 217 [.d (int t.kind),.d (int t.fr),.d (int t.til),.d (str t.name),.d (gP t.aH)])::(14,.box 220 [.d (str (t.aH[k]?.getD Atr.none).name),.d (str (t.aH[k]?.getD Atr.none).val),.d (int (t.aH[k]?.getD Atr.none).fr),.d (int (t.aH[k]?.getD Atr.none).til),.d (tru (t.aH[k]?.getD Atr.none).has)])::fnd 23 40000 a b x.2⟩) (fun x=>x.1≤X.length∧x.2=M++(X.take x.1).map fun x=>iB a b kd (cR (t.aH[k]?.getD Atr.none).val x) (t.aH[k]?.getD Atr.none).fr (t.aH[k]?.getD Atr.none).til) (fun x=>X.length-x.1) (0,M) qE (aC [0,1,6,7,8,9,14,15,24,25,26,72,73,74,99,100,101] [9,14,23,40000] qA qA qE) ?_
     clear hK hF hSp
     rintro⟨j,N⟩ ⟨hj,hN⟩
     simp only at hj hN⊢
     have lN:N.length≤M.length+200002:=by rw[hN];simp;omega
     by_cases hjl:j<X.length
     ·have hx:=hO.get j hjl
      have hcl:=mW (t.aH[k]?.getD Atr.none).val (X[j]?.getD (0,0))
      have hn:=CJ a b kd (t.aH[k]?.getD Atr.none).val (t.aH[k]?.getD Atr.none).fr (t.aH[k]?.getD Atr.none).til X j hjl
      have hadd:=Ee a b ha hbf N kd (cR (t.aH[k]?.getD Atr.none).val (X[j]?.getD (0,0))) (t.aH[k]?.getD Atr.none).fr (t.aH[k]?.getD Atr.none).til qD qD hke2
      generalize hnew:iB a b kd (cR (t.aH[k]?.getD Atr.none).val (X[j]?.getD (0,0))) (t.aH[k]?.getD Atr.none).fr (t.aH[k]?.getD Atr.none).til=new at hn hadd
      repeat' (first|refine Wd ?_|(refine Wc ?_ ?_<;>intro hb<;>try simp at hb)|(refine dC 11 hc qC qC ?_;try simp only[List.take_succ_cons,List.take_zero,List.drop_succ_cons,List.drop_zero])|refine Wn ?_|refine aF ([(100000,23),(50001,40000)]) (hadd) hc qA qA qA qA qA rfl qA qA rfl qE qE qA qA ?_|fail)
      all_goals try(exfalso;omega)
      exact⟨(j+1,N++[new]),⟨qI,QX⟩,qI,aC [0,1,6,7,8,9,14,15,24,25,26,72,73,74,99,100,101] [9,14,23,40000] qA qA qE⟩
     ·obtain rfl:j=X.length:=by omega
      rw[List.take_length]at hN
      rw[←hat]at hN
      repeat' (first|refine Wd ?_|(refine Wc ?_ ?_<;>intro hb<;>try simp at hb)|refine Wn ?_|fail)
      all_goals try(exfalso;omega)
      exact⟨(k+1,N),⟨qI,qaI⟩,qI,aC [0,1,6,7,8,9,24,25,26,72,73,74] [9,23,40000] qA qA qE⟩
   ·obtain rfl:k=t.aH.length:=by omega
    have hfin:eC p a b m (i+1)=M:=by
     show eC p a b m i++A5 p a b m i=M
     unfold A5
     rw[hM,htt,←hA,←List.append_assoc,←hM1]
    repeat' (first|refine Wd ?_|(refine Wc ?_ ?_<;>intro hb<;>try simp at hb)|refine Wn ?_|fail)
    all_goals try(exfalso;omega)
    ·rw[hS0,hstp,if_pos hil,if_pos (by rw[hfin];omega),hfin]
     (refine Zl hc (hr:=?_))
     simp
    ·exact⟨(i+1,M),⟨qI,hfin.symm,qaB,qI⟩,qI,aC [0,1,6,7,24,25,26] [23,40000] qA qA qE⟩
 ·obtain rfl:i=m.length:=by omega
  rw[hS0,hstp,if_neg hil,←hA]
  repeat' (first|refine Wd ?_|(refine Wc ?_ ?_<;>intro hb<;>try simp at hb)|refine Wn ?_|fail)
  all_goals try(exfalso;omega)
  (refine Zl hc (hr:=?_))
  simp
set_option maxHeartbeats 1000000
theorem Of {m:List Tk} {a b:Nat} (h:sU m a b): ∀t∈m,Fit t∧(t.kind≠2→t.aH=[])∧t.aH.length≤200000:=by
 induction m generalizing a with
 |nil=>intro t ht;cases ht
 |cons t m ih=>
  intro x hx
  cases hx with
  |head=>exact⟨h.2.2.1,h.2.2.2.1.1,h.2.2.2.1.2⟩
  |tail _ hx=>exact ih h.2.2.2.2 x hx
theorem Ef {m:List Tk} {P:Tk→Prop} (h0:P .none) (h: ∀t∈m,P t) (i:Nat):P (m[i]?.getD .none):=by
 by_cases hi:i<m.length
 ·rw[List.getElem?_eq_getElem hi]
  exact h _ (List.getElem_mem hi)
 ·rw[List.getElem?_eq_none qD]
  exact h0
theorem Hh (p:Bs) (h:p.length≤200000∧(run p 0 0 []).length≤20000):Rw p (run p 0 0 []):=by
 have hS:=AZ p h.1 p.length 0 0 [] qD (Nat.le_refl _) qD rfl h.2
 have hM:=Of hS
 have hT:=N8 p
 refine⟨h.1,⟨h.2,Ef (P:=fun t=>t.aH.length≤200000) qE (fun t ht=>(hM t ht).2.2),Ef (P:=fun t=> ∀a∈t.aH,a.val.length≤200000) (fun a ha=>by cases ha) fun t ht a ha=>?_⟩,fun i hi=>?_,Ef (P:=fun t=>t.kind≠2→t.aH=[]) (fun _=>rfl) fun t ht=>(hM t ht).2.1⟩
 ·have hv:=(hT t ht).val a ha
  by_cases hh:a.has=true
  ·rw[hv.1 hh]
   have:=wP ((p.take a.til).drop a.fr)
   simp only[List.length_drop,List.length_take]at this
   omega
  ·rw[hv.2 (Bool.eq_false_iff.2 hh)]
   simp
 ·have:=(N9 hS).2 i hi
  omega
theorem Hi (l:Bs) (hm:l.length≤maxLen):aJ Tryz.prog 107 [byS l] (if l.length≤200000∧(run l 0 0 []).length≤20000 then .tup [dX (run l 0 0 []),int 0]else .tup [fQ,int 2]):=by
 have hC:=I5 l hm
 by_cases h:l.length≤200000∧(run l 0 0 []).length≤20000
 ·have hS:=AZ l h.1 l.length 0 0 [] qD (Nat.le_refl _) qD rfl h.2
  rw[if_pos h]at hC⊢
  refine aJ.MD (res:= .tup [J9 (run l 0 0 []),int 0]) hC (Fy rfl fun k d hd=>?_)
  match k,hd with
  |0,hd=>cases hd;exact⟨_,rfl,N1 hS.plain⟩
  |1,hd=>cases hd;exact⟨_,rfl,cJ.refl _⟩
 ·rw[if_neg h]at hC⊢
  exact hC
def fdE (p:Bs) (a:Adr):Nat:=if¬(p.length≤200000∧(run p 0 0 []).length≤20000)then 2 else if bX a≠0 then bX a else if 5000<(iC p a (run p 0 0 [])).length then 2 else 0
theorem Ba {p:Bs} {a:Adr} (h:fdE p a=0):(p.length≤200000∧(run p 0 0 []).length≤20000)∧bX a=0∧(iC p a (run p 0 0 [])).length≤5000:=by
 unfold fdE at h
 split at h
 ·cases h
 ·rename_i h1
  split at h
  ·rename_i h2;exact absurd h h2
  ·rename_i h2
   split at h
   ·cases h
   ·rename_i h3
    exact⟨Classical.not_not.1 h1,Classical.not_not.1 h2,qD⟩
theorem Hj (p:Bs) (a:Adr) (hm:p.length≤maxLen) (ha:a.Fits):aJ Tryz.prog 50 [byS p,dI a] (if fdE p a=0 then .tup [dX (run p 0 0 []),oK (iC p a (run p 0 0 [])),int 0]else .tup [fQ,fQ,int (fdE p a)]):=by
 have hC:=Hi p hm
 refine aW Tryz.func50 rfl qC Tryz.ntmps50 _ rfl qE fun C hc=>?_
 have hA:=eL a ha
 unfold maxLen at hm
 unfold fdE
 by_cases h:p.length≤200000∧(run p 0 0 []).length≤20000
 rotate_left
 ·rw[if_neg h]at hC
  rw[if_pos h,if_neg qK]
  repeat' (first|refine Wd ?_|(refine Wc ?_ ?_<;>intro hb<;>try simp at hb)|refine Zw hc (hf:=qV) (hk:=?_)|refine Zq hc (hf:=qV) (hk:=?_)|refine Wn ?_|fail)
  all_goals try contradiction
  (refine Zl hc (hr:=?_))
  simp
 have hT:=Hh p h
 have hL:=Oe p (run p 0 0 []) a ha hT
 rw[if_pos h]at hC
 rw[if_neg (show¬ ¬(p.length≤200000∧(run p 0 0 []).length≤20000)from fun e=>e h)]
 by_cases h0:bX a=0
 rotate_left
 ·rw[if_pos h0,if_neg h0]
  repeat' (first|refine Wd ?_|(refine Wc ?_ ?_<;>intro hb<;>try simp at hb)|refine Zw hc (hf:=by first|exact hC|exact hA) (hk:=?_)|refine Zq hc (hf:=by first|exact hC|exact hA) (hk:=?_)|refine Wn ?_|fail)
  all_goals try contradiction
  (refine Zl hc (hr:=?_))
  simp
 rw[if_neg (show¬bX a≠0 from fun e=>e h0)]
 rw[h0]at hA
 generalize iC p a (run p 0 0 [])=L at hL⊢
 have hlen:=hT.fit.len
 generalize run p 0 0 []=m at hC hL hlen⊢
 repeat' (first|refine Wd ?_|(refine Wc ?_ ?_<;>intro hb<;>try simp at hb)|refine Zw hc (hf:=by first|exact hC|exact hA|exact hL) (hk:=?_)|refine Zq hc (hf:=by first|exact hC|exact hA|exact hL) (hk:=?_)|refine Wn ?_|fail)
 all_goals try contradiction
 all_goals try(exfalso;omega)
 ·rw[if_pos (show 5000<L.length by omega),if_neg qK]
  (refine Zl hc (hr:=?_))
  simp
 ·rw[if_neg (show¬5000<L.length by omega),if_pos rfl]
  (refine Zl hc (hr:=?_))
  simp
theorem LW (p:Bs) (a:Adr) (hm:p.length≤maxLen) (ha:a.Fits):aJ Tryz.prog 42 [byS p,dI a] (if fdE p a=0 then .tup [oK (iC p a (run p 0 0 [])),int 0]else .tup [fQ,int (fdE p a)]):=by
 have hF:=Hj p a hm ha
 refine aW Tryz.func42 rfl qC Tryz.ntmps42 _ rfl qE fun C hc=>?_
 by_cases h:fdE p a=0
 ·rw[if_pos h]at hF⊢
  repeat' (first|refine Wd ?_|(refine Wc ?_ ?_<;>intro hb<;>try simp at hb)|refine Zw hc (hf:=qaM) (hk:=?_)|refine Zq hc (hf:=qaM) (hk:=?_)|refine Wn ?_|fail)
  (refine Zl hc (hr:=?_))
  simp
 ·rw[if_neg h]at hF⊢
  repeat' (first|refine Wd ?_|(refine Wc ?_ ?_<;>intro hb<;>try simp at hb)|refine Zw hc (hf:=qaM) (hk:=?_)|refine Zq hc (hf:=qaM) (hk:=?_)|refine Wn ?_|fail)
  (refine Zl hc (hr:=?_))
  simp
structure Xn (p:Bs) (x:Lnk):Prop where
 le:x.fr≤x.til
 til:x.til≤p.length
 text:x.kind≠4→x.kind≠9→iV (cR p (x.fr,x.til))=x.text
theorem Rx (a b:Adr) (k:Nat) (text:Bs) (fr til:Nat):(iB a b k text fr til).kind=k∧(iB a b k text fr til).text=text∧(iB a b k text fr til).fr=fr∧(iB a b k text fr til).til=til:=by
 unfold iB
 (repeat' split)<;>exact⟨rfl,rfl,rfl,rfl⟩
theorem Ord.mem {r:List (Nat×Nat)} {a b:Nat} (h:Ord r a b) {x:Nat×Nat} (hx:x∈r):a≤x.1∧x.1≤x.2∧x.2≤b:=by
 obtain⟨i,hi,rfl⟩:=List.getElem_of_mem hx
 have:=h.get i hi
 rw[List.getElem?_eq_getElem hi]at this
 exact this
def WX (l:Bs) (a b:Nat):Bs:=(List.range (b-a)).map fun i=>l[a+i]?.getD 0
@[simp] theorem Ui (l:Bs) (a b:Nat):List.map (fun i=>l[a+i]?.getD 0) (List.range (b-a))=WX l a b:=rfl
set_option maxHeartbeats 8000000
theorem Hk (l:Bs) (hl:l.length≤9223372036854775807):aV Tryz.prog 10 [str l] (IsB fun b=>b=true→l.length≤200):=by
 refine bI Tryz.func10 rfl qC Tryz.ntmps10 _ rfl qE ?_
 have hI:=fun c=>bZ [34,35,39,40,41,44,60,62] c
 repeat' (first|refine Va ?_|(with_reducible refine aB (ht:=fun hb=>?_) (hf:=fun hb=>?_)<;>(try simp at hb))|refine Vb ?_|refine Vl (hG:=?_)|fail)
 refine vU [0,5,6] [] 6 l.length ?_
 intro L hL j hj ih
 by_cases hjn:j<l.length
 ·repeat' (first|refine Va ?_|(with_reducible refine aB (ht:=fun hb=>?_) (hf:=fun hb=>?_)<;>(try simp at hb))|refine Vb ?_|refine Vl (hG:=?_)|refine Vc (hf:=qa4) (h:=?_)|refine Vd (hf:=qa4) (h:=?_)|fail)
  all_goals try(exfalso;omega)
  all_goals first|exact⟨_,rfl,qE⟩|exact Vk [0,5,6] [] hL (ih (j+1) qD qD)
 ·repeat' (first|refine Va ?_|(with_reducible refine aB (ht:=fun hb=>?_) (hf:=fun hb=>?_)<;>(try simp at hb))|refine Vb ?_|refine Vl (hG:=?_)|fail)
  all_goals try(exfalso;omega)
  refine⟨_,rfl,fun h=>?_⟩
  simp at h
  omega
theorem Ts (l:Bs) (hl:l.length≤9223372036854775807):aV Tryz.prog 46 [str l] (IsB fun b=>b=true→l.length≤2000):=by
 refine bI Tryz.func46 rfl qC Tryz.ntmps46 _ rfl qE ?_
 have hI:=fun c=>bZ [34,39,40,41,44,60,62] c
 repeat' (first|refine Va ?_|(with_reducible refine aB (ht:=fun hb=>?_) (hf:=fun hb=>?_)<;>(try simp at hb))|refine Vb ?_|refine Vl (hG:=?_)|fail)
 refine vU [0,5,6] [] 6 l.length ?_
 intro L hL j hj ih
 by_cases hjn:j<l.length
 ·repeat' (first|refine Va ?_|(with_reducible refine aB (ht:=fun hb=>?_) (hf:=fun hb=>?_)<;>(try simp at hb))|refine Vb ?_|refine Vl (hG:=?_)|refine Vc (hf:=qa4) (h:=?_)|refine Vd (hf:=qa4) (h:=?_)|fail)
  all_goals try(exfalso;omega)
  all_goals first|exact⟨_,rfl,qE⟩|exact Vk [0,5,6] [] hL (ih (j+1) qD qD)
 ·repeat' (first|refine Va ?_|(with_reducible refine aB (ht:=fun hb=>?_) (hf:=fun hb=>?_)<;>(try simp at hb))|refine Vb ?_|refine Vl (hG:=?_)|fail)
  all_goals try(exfalso;omega)
  refine⟨_,rfl,fun h=>?_⟩
  simp at h
  omega
@[simp] theorem Wx (o:Option Int):(Option.map (fun y=>[int y]) o).getD [int 0]=[int (o.getD 0)]:=by cases o<;>rfl
theorem Ry (t:Int) (ht:Mom t):aV Tryz.prog 102 [int t] (IsS 400):=by
 obtain⟨h1,h2⟩:=ht
 obtain⟨t,rfl⟩: ∃m:Nat,t=m:=⟨t.toNat,qD⟩
 refine bI Tryz.func102 rfl qC Tryz.ntmps102 _ rfl qE ?_
 repeat' (first|refine Va ?_|(with_reducible refine aB (ht:=fun hb=>?_) (hf:=fun hb=>?_)<;>(try simp at hb))|refine Vn ?_|refine Vl (hG:=?_)|(refine Ve (hf:=FI t qD) (hk:=?_);rintro _ ⟨y,m,x,h,i,s,rfl,h3,h4,h5,h6,h7,h8⟩)|(refine Ve (hf:=kW y 4 qD qD) (hk:=?_);rintro _ ⟨l,rfl,hl⟩)|fail)
 obtain⟨Q,hQ,hQl,hfb⟩: ∃Q:List Int,[[int m],[int x],[int h],[int i],[int s]]=Q.map (fun y=>[int y])∧Q.length=5∧ ∀k:Nat,-1000000000000<Q[k]?.getD 0∧Q[k]?.getD 0<1000000000000:=by
  refine⟨[m,x,h,i,s],rfl,rfl,fun k=>?_⟩
  match k with
  |0|1|2|3|4=>simp;omega
  |k+5=>simp
 refine Vle (st2:=⟨[(4,.d (str l)),(22,.os 22 5),(23,.d (int 5)),(24,.d (int 0))],[(22,.own 3 1 (true,[int 0]) (Q.map fun y=>[int y]))]⟩) (fun C hc=>aC [4,22,23,24] [22] qA qA (by rw[←hQ])) ?_
 refine dP [] [4,22,23,24] [22] (fun x:Nat×Bs=>[(4,.d (str x.2)),(24,.d (int x.1))]) (fun _=>[]) (fun x=>x.1≤5∧x.2.length≤40+40*x.1) (fun x=>5-x.1) (0,l) qI ?_
 rintro L hL ⟨j,v⟩ ⟨hj,hv⟩ ih
 simp only at hj hv ih⊢
 by_cases hjn:j<5
 ·obtain⟨_,⟨p,rfl,hp⟩,hP⟩:=kW (Q[j]?.getD 0) 2 (hfb j) qD
  repeat' (first|refine Va ?_|(with_reducible refine aB (ht:=fun hb=>?_) (hf:=fun hb=>?_)<;>(try simp at hb))|refine Vn ?_|refine Vl (hG:=?_)|refine Vc (hf:=by exact hP) (h:=?_)|fail)
  all_goals try(exfalso;omega)
  exact Vk [4,22,23,24] [22] hL (ih (j+1,v++p) ⟨qI,by simp only[List.length_append];omega⟩ qI)
 ·repeat' (first|refine Va ?_|(with_reducible refine aB (ht:=fun hb=>?_) (hf:=fun hb=>?_)<;>(try simp at hb))|refine Vn ?_|refine Vl (hG:=?_)|fail)
  all_goals try(exfalso;omega)
  exact⟨v,rfl,qD⟩
theorem Og (a:Adr) (ha:a.Fits):aV Tryz.prog 44 [dI a] (fun d=> ∃(s:Bs) (e:Nat),d= .tup [str s,int e]∧s.length≤2000):=
 ⟨_,⟨_,_,rfl,by
   unfold Cu
   split
   ·rename_i h
    exact((kC a).1 h).2
   ·simp⟩,JV a ha⟩
theorem Eg (l:Bs) (hl:l.length≤9223372036854775807) (t:Int) (a:Adr) (ha:a.Fits):aV Tryz.prog 45 [str l,int t,dI a] (fun d=> ∃(s:Bs) (e:Int),d= .tup [str s,int e]∧s.length≤10000):=by
 refine bI Tryz.func45 rfl qC Tryz.ntmps45 _ rfl qE ?_
 repeat' (first|refine Va ?_|(with_reducible refine aB (ht:=fun hb=>?_) (hf:=fun hb=>?_)<;>(try simp at hb))|refine Vn ?_|refine Vl (hG:=?_)|(refine Ve (hf:=Hk l hl) (hk:=?_);rintro _ ⟨b,rfl,hb1⟩)|refine Vc (hf:=qaS) (h:=?_)|(refine Ve (hf:=Og a ha) (hk:=?_);rintro _ ⟨s,e,rfl,hs⟩)|fail)
 ·exact⟨[],_,rfl,qE⟩
 ·exact⟨[],_,rfl,qE⟩
 ·exact⟨[],_,rfl,qE⟩
 have hl2:=hb1 qN
 repeat' (first|refine Va ?_|(with_reducible refine aB (ht:=fun hb=>?_) (hf:=fun hb=>?_)<;>(try simp at hb))|refine Vn ?_|refine Vl (hG:=?_)|(refine Ve (hf:=Ry t qN) (hk:=?_);rintro _ ⟨u,rfl,hu⟩)|fail)
 ·exact⟨_,_,rfl,qH⟩
theorem Hl (st:Int) (rs:Bs) (K:List (Bs×Bs)) (nb:Nat) (gb:Nat→UInt8) (hK:iO K):aV Tryz.prog 20 [v7 st rs K nb gb] (fun d=> ∃t:Bs,d=str t):=by
 refine bI Tryz.func20 rfl qC Tryz.ntmps20 _ rfl qE ?_
 repeat' (first|refine Va ?_|(with_reducible refine aB (ht:=fun hb=>?_) (hf:=fun hb=>?_)<;>(try simp at hb))|refine Vn ?_|refine Vl (hG:=?_)|(refine Ve (hf:=LA _ _ _ hK.hd) (hk:=?_);rintro _ ⟨t,u,ok,f,rfl⟩)|fail)
 all_goals exact⟨_,rfl⟩
theorem wV (a b:Adr) (k:Nat) (t:Bs) (x y:Nat):(iB a b k t x y).dest.Fits:=by
 unfold iB
 generalize (if k=1 then a else b)=c
 by_cases h:(mA c t).2=0
 ·rw[if_pos h]
  exact J0 h
 ·rw[if_neg h]
  exact wO
theorem x8 (a b:Adr) (t:Tk): ∀k,∀x∈cO a b t k,x.dest.Fits
 |0,x,hx=>by cases hx
 |k+1,x,hx=>by
  rcases List.mem_append.1 hx with hx|hx
  ·exact x8 a b t k x hx
  ·unfold jZ at hx
   split at hx
   ·obtain⟨y,_,rfl⟩:=List.mem_map.1 hx
    exact wV ..
   ·cases hx
theorem Bb (p:Bs) (a b:Adr) (m:List Tk): ∀i,∀x∈eC p a b m i,x.dest.Fits
 |0,x,hx=>by cases hx
 |i+1,x,hx=>by
  rcases List.mem_append.1 hx with hx|hx
  ·exact Bb p a b m i x hx
  ·rcases List.mem_append.1 hx with hx|hx
   ·unfold lU at hx
    split at hx
    ·obtain⟨y,_,rfl⟩:=List.mem_map.1 hx
     exact wV ..
    ·cases hx
   ·exact x8 _ _ _ _ x hx
theorem LX (l:Bs) (a:Adr): ∀x∈n0 l a,x.dest.Fits:=fun x hx=>by
 obtain⟨y,_,rfl⟩:=List.mem_map.1 hx
 exact wV ..
theorem uX {P:Program} {f:FuncId} {n:Nat} {g:Nat→UInt8} {r:List D} {G:D→Prop} (h:aV P f (byS ((List.range n).map g)::r) G):aV P f (byF n g::r) G:=by
 refine h.args rfl fun i e hi=>?_
 cases i with
 |zero=>
  cases hi
  refine⟨_,rfl,?_⟩
  rw[byS,List.length_map,List.length_range]
  refine nJ (fun i hi=>by simp[hi]) fun i k d hi hk=>⟨d,?_,cJ.refl _⟩
  rw[←hk]
  simp[hi,aZ]
 |succ i=>exact⟨e,qU,cJ.refl _⟩
def Ki (d:D):Prop:=(∃e:Nat,d= .tup [.lit (.slice none 0 0),int e]∧e≠0)∨ ∃m:List Lnk,d= .tup [oK m,int 0]∧m.length≤5000∧ ∀x∈m,x.dest.Fits
theorem Oh (n:Nat) (g:Nat→UInt8) (a:Adr) (hn:n≤1000000) (ha:a.Fits):aV Tryz.prog 42 [byF n g,dI a] Ki:=by
 refine uX ?_
 have h:=LW ((List.range n).map g) a (by simp[maxLen];omega) ha
 generalize (List.range n).map g=p at h
 split at h
 ·rename_i h0
  exact⟨_,.inr ⟨_,rfl,(Ba h0).2.2,fun x hx=>Bb _ _ _ _ _ x hx⟩,h⟩
 ·rename_i h0
  exact⟨_,.inl ⟨_,rfl,h0⟩,h⟩
theorem Oi (n:Nat) (g:Nat→UInt8) (a:Adr) (hn:n≤1000000) (ha:a.Fits):aV Tryz.prog 43 [byF n g,dI a] Ki:=by
 refine uX ?_
 have h:=rY ((List.range n).map g) a (by simp[maxLen];omega) ha
 generalize (List.range n).map g=p at h
 split at h
 ·rename_i h0
  refine⟨_,.inr ⟨_,rfl,?_,LX p a⟩,h⟩
  unfold stE at h0
  rw[n0,List.length_map]
  split at h0
  ·cases h0
  ·split at h0
   ·rename_i h1;exact absurd h0 h1
   ·split at h0
    ·cases h0
    ·omega
 ·rename_i h0
  exact⟨_,.inl ⟨_,rfl,h0⟩,h⟩
theorem Oj (st:Int) (rs:Bs) (K:List (Bs×Bs)) (nb:Nat) (gb:Nat→UInt8) (hK:iO K) (hnb:nb≤1000000) (key:Bs) (hk:key.length≤9223372036854775807):aV Tryz.prog 16 [v7 st rs K nb gb,str key] (fun d=> ∃(m:List Lnk) (ok:Bool),d= .tup [oK m,tru ok]∧m.length≤5000∧ ∀x∈m,x.dest.Fits):=by
 refine aV.mono (G:=fun d=>(∃ok:Bool,d= .tup [.lit (.slice none 0 0),tru ok])∨ ∃(m:List Lnk) (ok:Bool),d= .tup [oK m,tru ok]∧m.length≤5000∧ ∀x∈m,x.dest.Fits) (bI Tryz.func16 rfl qC Tryz.ntmps16 _ rfl qE ?_) ?_
 rotate_left
 ·rintro _ (⟨ok,rfl⟩|h)
  ·exact⟨_,eZ (bY _),[],ok,rfl,qE,qE⟩
  ·exact⟨_,cJ.refl _,h⟩
 repeat' (first|refine Va ?_|(with_reducible refine aB (ht:=fun hb=>?_) (hf:=fun hb=>?_)<;>(try simp at hb))|refine Vn ?_|refine Vl (hG:=?_)|(refine Ve (hf:=uK key hk) (hk:=?_);rintro _ ⟨a,e,rfl,hF,_⟩)|(refine Ve (hf:=Hl st rs K nb gb hK) (hk:=?_);rintro _ ⟨t,rfl⟩)|(refine Ve (hf:=Oh nb gb a hnb hF) (hk:=?_);rintro _ (⟨e2,rfl,_⟩|⟨m,rfl,h1,h2⟩))|(refine Ve (hf:=Oi nb gb a hnb hF) (hk:=?_);rintro _ (⟨e2,rfl,_⟩|⟨m,rfl,h1,h2⟩))|fail)
 all_goals first|exact .inl ⟨_,rfl⟩|exact .inr ⟨_,_,rfl,h1,h2⟩
theorem Hm {m:List Lnk} (hF: ∀x∈m,x.dest.Fits) (j:Nat):(m[j]?.getD .none).dest.Fits:=by
 by_cases hj:j<m.length
 ·rw[List.getElem?_eq_getElem hj]
  exact hF _ (List.getElem_mem hj)
 ·rw[List.getElem?_eq_none qD]
  exact wO
abbrev Frg:=Bs×Int×Int×Int×Int
abbrev frC (x:Frg):List D:=[str x.1,int x.2.1,int x.2.2.1,int x.2.2.2.1,int x.2.2.2.2]
abbrev Hn (O:List Frg):D:= .sl O.length fun i=>frC (O[i]?.getD ([],0,0,0,0))
@[simp] theorem VS (o:Option Frg):(Option.map frC o).getD [str [],int 0,int 0,int 0,int 0]=frC (o.getD ([],0,0,0,0)):=by cases o<;>rfl
theorem Rz (s:Sto) (hs:s.Fit) (hR:pR s) (L0:List (Key×D)) (h0:rV s L0) (m:List Lnk) (hm:m.length≤5000) (hF: ∀x∈m,x.dest.Fits) (t dr:Int) (ht:Mom t):aV Tryz.prog 22 [AB s L0,oK m,int t,int dr] (fun d=> ∃O:List Frg,d=Hn O∧O.length≤5000):=by
 refine bI Tryz.func22 rfl qC Tryz.ntmps22 _ rfl qE ?_
 repeat' (first|refine Va ?_|(with_reducible refine aB (ht:=fun hb=>?_) (hf:=fun hb=>?_)<;>(try simp at hb))|refine Vn ?_|refine Vl (hG:=?_)|fail)
 refine dP [(9,none,40000,83,[str [],int 0,int 0,int 0,int 0])] [0,2,3,9,10,17,18,19] [16,40000] (fun x:Nat×List Bs×List Frg=>[(19,.d (int x.1)),(9,.os 40000 x.2.2.length)]) (fun x=>[(16,.cB 0 (x.2.1.map fun s=>(Key.s s,.lit (.bool true)))),(40000,.own 83 5 (true,[str [],int 0,int 0,int 0,int 0]) (x.2.2.map frC))]) (fun x=>x.1≤m.length∧x.2.2.length≤x.1) (fun x=>m.length-x.1) (0,[],[]) qE ?_
 rintro L hL ⟨j,K,O⟩ ⟨hj,hO⟩ ih
 simp only at hj hO ih⊢
 obtain⟨_,⟨k,e2,rfl,hk⟩,hKey⟩:=hR _ (Hm hF j)
 repeat' (first|refine Va ?_|(with_reducible refine aB (ht:=fun hb=>?_) (hf:=fun hb=>?_)<;>(try simp at hb))|refine Vn ?_|refine Vl (hG:=?_)|fail)
 ·exact Vk [0,2,3,9,10,17,18,19] [16,40000] hL (ih (j+1,K,O) ⟨qI,qI⟩ qI)
 ·refine Vb ?_
  repeat' (first|refine Va ?_|(with_reducible refine aB (ht:=fun hb=>?_) (hf:=fun hb=>?_)<;>(try simp at hb))|refine Vn ?_|refine Vl (hG:=?_)|refine Vd (hf:=by exact hKey) (h:=?_)|fail)
  ·exact Vk [0,2,3,9,10,17,18,19] [16,40000] hL (ih (j+1,K,O) ⟨qI,qI⟩ qI)
  repeat' (first|refine Va ?_|(with_reducible refine aB (ht:=fun hb=>?_) (hf:=fun hb=>?_)<;>(try simp at hb))|refine Vn ?_|refine Vl (hG:=?_)|(refine Ve (hf:=Nx s hs L0 h0 k qD t dr ht) (hk:=?_);rintro _ ⟨a,b,c,rfl⟩)|fail)
  exact Vk [0,2,3,9,10,17,18,19] [16,40000] hL (ih (j+1,K++[k],O++[(k,((m[j]?.getD Lnk.none).kind:Int),a,b,c)]) ⟨qI,qH⟩ qI) (he:=by rw[Cp _ _ (by assumption:e2=0∧ ¬k∈K).2];simp)
 ·exact⟨O,qE,qD⟩
end Go.Proofs.YtdjfgcjlnfnfhaaGreatDoor
namespace Go.Proofs
open Go.Shelf
def Tryz.Uj:Go.Shelf.Ren:=⟨fun|7=>48|10=>105|n=>n,fun|23=>116|26=>9|3=>9|28=>124|0=>0|27=>123|33=>55|4=>4|n=>n,fun|n=>n⟩
theorem Tryz.VT:Go.Proofs.SlLaysZ.n7 Tryz.prog Tryz.Uj:={
 mixed:=by kernel_rfl
 f7:=⟨Tryz.f48.name,qK,Tryz.func48.trans (congrArg some qC)⟩
 f10:=⟨Tryz.f105.name,qK,Tryz.func105.trans (congrArg some qC)⟩
 t0:=Tryz.underlying0
 a0:=Tryz.isAgg0
 z0:=Tryz.sizeOf0
 v0:=Tryz.zeroValue0
 t4:=Tryz.underlying4
 a4:=Tryz.isAgg4
 z4:=Tryz.sizeOf4
 v4:=Tryz.zeroValue4
 t23:=Tryz.underlying116
 a23:=Tryz.isAgg116
 z23:=Tryz.sizeOf116
 v23:=Tryz.zeroValue116
 t26:=Tryz.underlying9
 a26:=Tryz.isAgg9
 z26:=Tryz.sizeOf9
 v26:=Tryz.zeroValue9
 t27:=Tryz.underlying123
 a27:=Tryz.isAgg123
 z27:=Tryz.sizeOf123
 v27:=Tryz.zeroValue123
 t28:=Tryz.underlying124
 a28:=Tryz.isAgg124
 z28:=Tryz.sizeOf124
 v28:=Tryz.zeroValue124
 t33:=Tryz.underlying55
 a33:=Tryz.isAgg55
 z33:=Tryz.sizeOf55
 v33:=Tryz.zeroValue55}
def Tryz.Sq:Go.Shelf.Ren:=⟨fun|6=>47|8=>103|9=>104|11=>172|13=>174|12=>173|23=>261|24=>262|14=>252|15=>253|16=>254|17=>255|18=>256|19=>257|20=>258|21=>259|22=>260|25=>314|26=>315|27=>316|28=>317|29=>318|30=>319|31=>354|n=>n,fun|26=>9|28=>124|24=>30|0=>0|3=>3|37=>285|48=>351|50=>353|4=>4|40=>345|39=>344|45=>196|5=>5|9=>9|51=>400|55=>404|57=>430|58=>431|33=>55|n=>n,fun|n=>n⟩
theorem Tryz.RA:Go.Proofs.SlLaysZ.n6 Tryz.prog Tryz.Sq:={
 mixed:=by kernel_rfl
 f6:=⟨Tryz.f47.name,qK,Tryz.func47.trans (congrArg some qC)⟩
 f8:=⟨Tryz.f103.name,qK,Tryz.func103.trans (congrArg some qC)⟩
 f11:=⟨Tryz.f172.name,qK,Tryz.func172.trans (congrArg some qC)⟩
 t0:=Tryz.underlying0
 a0:=Tryz.isAgg0
 z0:=Tryz.sizeOf0
 v0:=Tryz.zeroValue0
 t24:=Tryz.underlying30
 a24:=Tryz.isAgg30
 z24:=Tryz.sizeOf30
 v24:=Tryz.zeroValue30
 t26:=Tryz.underlying9
 a26:=Tryz.isAgg9
 z26:=Tryz.sizeOf9
 v26:=Tryz.zeroValue9
 t28:=Tryz.underlying124
 a28:=Tryz.isAgg124
 z28:=Tryz.sizeOf124
 v28:=Tryz.zeroValue124
 i26:=by kernel_rfl}
def Tryz.XH:Go.Shelf.Ren:=⟨fun|6=>104|8=>174|9=>173|19=>261|20=>262|21=>252|22=>253|23=>254|24=>255|25=>256|26=>257|27=>258|28=>259|29=>260|36=>314|31=>315|32=>316|37=>317|38=>318|39=>319|41=>354|n=>n,fun|27=>30|29=>9|3=>3|32=>285|26=>30|0=>0|44=>351|46=>353|4=>4|36=>345|35=>344|41=>196|5=>5|9=>9|53=>400|57=>404|63=>430|64=>431|n=>n,fun|n=>n⟩
theorem Tryz.Sp:Go.Proofs.SlLaysM.n6 Tryz.prog Tryz.XH:={
 mixed:=by kernel_rfl
 f6:=⟨Tryz.f104.name,qK,Tryz.func104.trans (congrArg some qC)⟩
 f8:=Tryz.func174.trans (congrArg some qC)
 f9:=⟨Tryz.f173.name,qK,Tryz.func173.trans (congrArg some qC)⟩
 f19:=Tryz.func261.trans (congrArg some qC)
 f20:=Tryz.func262.trans (congrArg some qC)
 f21:=⟨Tryz.f252.name,qK,Tryz.func252.trans (congrArg some qC)⟩
 f22:=⟨Tryz.f253.name,qK,Tryz.func253.trans (congrArg some qC)⟩
 f23:=⟨Tryz.f254.name,qK,Tryz.func254.trans (congrArg some qC)⟩
 f24:=⟨Tryz.f255.name,qK,Tryz.func255.trans (congrArg some qC)⟩
 f25:=⟨Tryz.f256.name,qK,Tryz.func256.trans (congrArg some qC)⟩
 f26:=⟨Tryz.f257.name,qK,Tryz.func257.trans (congrArg some qC)⟩
 f27:=⟨Tryz.f258.name,qK,Tryz.func258.trans (congrArg some qC)⟩
 f28:=⟨Tryz.f259.name,qK,Tryz.func259.trans (congrArg some qC)⟩
 f29:=⟨Tryz.f260.name,qK,Tryz.func260.trans (congrArg some qC)⟩
 f31:=Tryz.func315.trans (congrArg some qC)
 f32:=Tryz.func316.trans (congrArg some qC)
 f36:=⟨Tryz.f314.name,qK,Tryz.func314.trans (congrArg some qC)⟩
 f37:=⟨Tryz.f317.name,qK,Tryz.func317.trans (congrArg some qC)⟩
 f38:=⟨Tryz.f318.name,qK,Tryz.func318.trans (congrArg some qC)⟩
 f39:=⟨Tryz.f319.name,qK,Tryz.func319.trans (congrArg some qC)⟩
 f41:=⟨Tryz.f354.name,qK,Tryz.func354.trans (congrArg some qC)⟩
 t0:=Tryz.underlying0
 a0:=Tryz.isAgg0
 z0:=Tryz.sizeOf0
 v0:=Tryz.zeroValue0
 t3:=Tryz.underlying3
 a3:=Tryz.isAgg3
 z3:=Tryz.sizeOf3
 v3:=Tryz.zeroValue3
 t4:=Tryz.underlying4
 a4:=Tryz.isAgg4
 z4:=Tryz.sizeOf4
 v4:=Tryz.zeroValue4
 t5:=Tryz.underlying5
 a5:=Tryz.isAgg5
 z5:=Tryz.sizeOf5
 v5:=Tryz.zeroValue5
 t9:=Tryz.underlying9
 a9:=Tryz.isAgg9
 z9:=Tryz.sizeOf9
 v9:=Tryz.zeroValue9
 t26:=Tryz.underlying30
 a26:=Tryz.isAgg30
 z26:=Tryz.sizeOf30
 v26:=Tryz.zeroValue30
 t27:=Tryz.underlying30
 a27:=Tryz.isAgg30
 z27:=Tryz.sizeOf30
 v27:=Tryz.zeroValue30
 t29:=Tryz.underlying9
 a29:=Tryz.isAgg9
 z29:=Tryz.sizeOf9
 v29:=Tryz.zeroValue9
 t32:=Tryz.underlying285
 a32:=Tryz.isAgg285
 z32:=Tryz.sizeOf285
 v32:=Tryz.zeroValue285
 t35:=Tryz.underlying344
 a35:=Tryz.isAgg344
 z35:=Tryz.sizeOf344
 v35:=Tryz.zeroValue344
 t36:=Tryz.underlying345
 a36:=Tryz.isAgg345
 z36:=Tryz.sizeOf345
 v36:=Tryz.zeroValue345
 t41:=Tryz.underlying196
 a41:=Tryz.isAgg196
 z41:=Tryz.sizeOf196
 v41:=Tryz.zeroValue196
 t44:=Tryz.underlying351
 a44:=Tryz.isAgg351
 z44:=Tryz.sizeOf351
 v44:=Tryz.zeroValue351
 t46:=Tryz.underlying353
 a46:=Tryz.isAgg353
 z46:=Tryz.sizeOf353
 v46:=Tryz.zeroValue353
 t53:=Tryz.underlying400
 a53:=Tryz.isAgg400
 z53:=Tryz.sizeOf400
 v53:=Tryz.zeroValue400
 t57:=Tryz.underlying404
 a57:=Tryz.isAgg404
 z57:=Tryz.sizeOf404
 v57:=Tryz.zeroValue404
 t63:=Tryz.underlying430
 a63:=Tryz.isAgg430
 z63:=Tryz.sizeOf430
 v63:=Tryz.zeroValue430
 t64:=Tryz.underlying431
 a64:=Tryz.isAgg431
 z64:=Tryz.sizeOf431
 v64:=Tryz.zeroValue431}
end Go.Proofs
namespace Go.Proofs
open Go.RowKit Go.Maps Go.Sort Go.Shelf
theorem Tryz.Tt (m:Nat):AnyZ.SortsIn Tryz.prog Tryz.Sq Fence.wide m:=
 ⟨fun blk off cap ss W hH hblk hsz=>callsIn_wide.2 (AnyM.slices_Sort_string Tryz.Sp blk off cap ss W hH hblk hsz),
  fun p cap W=>callsIn_wide.2 (AnyM.slices_Sort_string_none Tryz.Sp p cap W)⟩
theorem Tryz.Ol {H:Type} (Bm b nn:Nat) (D0:DataW H) (R:Value→Option (DataW H×List MemPlace)) (w:World) (hB:Bm<w.heap.size) (hm:w.cell? ⟨Bm,0,none⟩=some (.map (some b))) (hown:w.ownsMap Tryz.prog 9 R b nn D0) (hmax:Maps.size D0≤maxLen) (hbytes:Maps.size D0*16≤140737488355328):
 CallsIn Fence.wide 5 Tryz.prog 47 #[.func (.func 105) #[] #[.pointer (some ⟨Bm,0,none⟩)]] w fun e w'=> ∃(v:Value) (ss:List (List UInt8)),e= .returned v∧ss.Perm (strKeys D0)∧
  w'.ownsRow w.heap.size 9 1 v ss.length ((ss.mergeSort (fun x y=>decide (x≤y))).map encStr)∧(v= .slice none 0 0↔ss=[])∧Below w.heap.size w w':=
 AnyZ.sorted_in Tryz.RA Fence.wide 5 trivial trivial trivial trivial rfl qD (Tryz.Tt _) (enters_of Tryz.func104 qC rfl) 105 #[.pointer (some ⟨Bm,0,none⟩)] trivial (enters_of Tryz.func105 qC rfl) _ _ hmax hbytes _
  (AnyZ.keys_gives (ρ:=Tryz.Uj) {Tryz.VT with} Fence.wide _ trivial rfl qD Bm b nn D0 _ hB hm hown)
end Go.Proofs
namespace Go.Proofs.YtdjfgcjlnfnfhaaGreatDoor
open Go.Lw Go.RowKit
set_option maxRecDepth 100000
set_option maxHeartbeats 2000000
abbrev srt (K:List Bs):List Bs:=K.mergeSort fun x y=>decide (x≤y)
abbrev WY (K:List Bs):D:= .sl K.length fun i=>[str (K[i]?.getD [])]
def zB (K:List Bs):DataW Unit:= .map ((K.map fun s=>(Lit.string s,DataW.nil)).foldr DataW.insert [])
theorem Eh (K:List Bs):(Go.strKeys (zB K)).Perm K:=by
 have h:=(WideShapes.sorted_perm (K.map fun s=>(Lit.string s,(DataW.nil:DataW Unit)))).map (fun p=>Go.strOf p.1)
 have e:(K.map fun s=>(Lit.string s,(DataW.nil:DataW Unit))).map (fun p=>Go.strOf p.1)=K:=by
  rw[List.map_map]
  exact List.map_id'' (fun _=>rfl) _
 rw[e]at h
 exact h
theorem uY (K:List Bs):Go.Maps.size (zB K)=K.length:=by
 show List.length _=_
 rw[(WideShapes.sorted_perm _).length_eq,List.length_map]
theorem Ei (L:List (Key×D)) (K:List Bs) (hK:L.map (·.1)=K.map Key.s) (hnd:K.Nodup) (hl:K.length≤1000000) (hlen: ∀s∈K,s.length≤maxLen):
 bJ Tryz.prog 47 [.eR (.func 105) [.bp 100001 0]] [(100000,.cB 0 L),(100001,.box 116 [.mp 100000])] (.d (WY (srt K))) [(100000,.cB 0 L),(100001,.box 116 [.mp 100000])]:=by
 refine⟨qC,fun ok h w vs hok hstd hgl hlie ha=>?_⟩
 obtain⟨hn1,hr⟩:=ha
 obtain⟨v0,e0,r0⟩:=hr 0 _ rfl
 obtain⟨b0,cs,hb0,hheap0,hcs,hcell⟩:=hlie.obj 100001 (.box 116 [.mp 100000]) rfl
 obtain⟨v1,e1,r1⟩:=hcell 0 _ rfl
 obtain⟨b,es,hb,hheap,hes,hent⟩:=hlie.obj 100000 (.cB 0 L) rfl
 obtain rfl:v1= .map (some b):=by
  cases r1 with
  |mp _ b' hb'=>rw[hb]at hb';cases hb';rfl
 have hv0:v0= .func (.func 105) #[] #[.pointer (some ⟨b0,0,none⟩)]:=by
  cases r0 with
  |eR _ _ us g hu hg hx=>
   have h0:=hx 0 _ rfl
   have h1:=hg 0 qE
   have:us= #[.pointer (some ⟨b0,0,none⟩)]:=by
    apply Array.ext'
    apply List.ext_getElem?
    intro k
    match k with
    |0=>
     rw[Array.getElem?_toList,h1]
     cases h2:g 0<;>rw[h2]at h0<;>cases h0
     rename_i hb2
     rw[hb0]at hb2
     cases hb2
     rfl
    |k+1=>
     rw[Array.getElem?_toList,Array.getElem?_eq_none (by rw[hu];simp)]
     rfl
   rw[this]
 subst hv0
 have hvs:vs= #[.func (.func 105) #[] #[.pointer (some ⟨b0,0,none⟩)]]:=by
  apply Array.ext'
  apply List.ext_getElem?
  intro k
  match k with
  |0=>simpa using e0
  |k+1=>
   rw[Array.getElem?_toList,Array.getElem?_eq_none (by rw[hn1];simp)]
   rfl
 subst hvs
 have hlL:L.length=K.length:=by simpa using congrArg List.length hK
 have hat: ∀(i:Nat) (s:Bs),K[i]?=some s→ ∃v:Value,es[i]?=some (⟨Go.Proofs.encStr s,v,i⟩:MapEntry):=by
  intro i s hi
  have h1:=congrArg (·[i]?) hK
  simp only[List.getElem?_map,hi,Option.map_some]at h1
  obtain⟨⟨k,d⟩,h2,h3⟩:=Option.map_eq_some_iff.1 h1
  obtain⟨_,v,h4,_⟩:=hent i k d h2
  simp only at h3
  subst h3
  exact⟨v,h4⟩
 have hmem: ∀x∈es.toList,∃(i:Nat) (s:Bs),K[i]?=some s∧ ∃v,x=⟨Go.Proofs.encStr s,v,i⟩:=by
  intro x hx
  obtain⟨i,hi,rfl⟩:=List.mem_iff_getElem.1 hx
  have hi':i<K.length:=by rw[Array.length_toList]at hi;omega
  obtain⟨v,hv⟩:=hat i _ (List.getElem?_eq_getElem hi')
  refine⟨i,_,List.getElem?_eq_getElem hi',v,?_⟩
  have:=(Array.getElem?_eq_some_iff.1 hv).2
  simpa using this
 have hkey: ∀s∈K,keyOf Tryz.prog 9 (Go.Proofs.encStr s)=some (.string s):=by
  intro s hs
  have h1:s.length≤maxLen:=hlen s hs
  have e:Go.Proofs.encStr s= .string (bs s):=rfl
  rw[e]
  simp only[keyOf,mapKey,Tryz.underlying9]
  exact if_pos h1
 have hrd: ∀x∈es.toList,∃s,x.key=Go.Proofs.encStr s∧Go.WideElems.rd Tryz.prog 9 (fun _=>some ((DataW.nil:DataW Unit),[])) x=some (.string s,.nil):=by
  intro x hx
  obtain⟨i,s,hs,v,rfl⟩:=hmem x hx
  refine⟨s,rfl,?_⟩
  simp[Go.WideElems.rd,hkey s (List.mem_of_getElem? hs)]
 have hEs:es.toList.map (Go.WideElems.rg Tryz.prog 9 (fun _=>some ((DataW.nil:DataW Unit),[])))=K.map fun s=>(Lit.string s,DataW.nil):=by
  apply List.ext_getElem?
  intro i
  rw[List.getElem?_map,List.getElem?_map,Array.getElem?_toList]
  cases hi:K[i]? with
  |none=>
   rw[Array.getElem?_eq_none (by have:=List.getElem?_eq_none_iff.1 hi;omega)]
   rfl
  |some s=>
   obtain⟨v,hv⟩:=hat i s hi
   rw[hv]
   simp[Go.WideElems.rg,Go.WideElems.rd,hkey s (List.mem_of_getElem? hi)]
 have hborn:es.toList.map (·.born)=List.range K.length:=by
  apply List.ext_getElem?
  intro i
  rw[List.getElem?_map,Array.getElem?_toList]
  cases hi:K[i]? with
  |none=>
   have:=List.getElem?_eq_none_iff.1 hi
   rw[Array.getElem?_eq_none qD,List.getElem?_eq_none (by simpa using this)]
   rfl
  |some s=>
   obtain⟨v,hv⟩:=hat i s hi
   have:=(List.getElem?_eq_some_iff.1 hi).1
   rw[hv,List.getElem?_range this]
   rfl
 have hkeys:es.toList.map (·.key)=K.map Go.Proofs.encStr:=by
  apply List.ext_getElem?
  intro i
  rw[List.getElem?_map,List.getElem?_map,Array.getElem?_toList]
  cases hi:K[i]? with
  |none=>
   rw[Array.getElem?_eq_none (by have:=List.getElem?_eq_none_iff.1 hi;omega)]
   rfl
  |some s=>
   obtain⟨v,hv⟩:=hat i s hi
   rw[hv]
   rfl
 have hown:w.ownsMap Tryz.prog 9 (fun _=>some ((DataW.nil:DataW Unit),[])) b K.length (zB K):=by
  refine⟨es,L.length,hheap,⟨by unfold maxLen;omega,⟨fun x hx=>?_,?_,?_⟩,fun x hx=>?_⟩,qD,by rw[hEs];rfl⟩
  ·obtain⟨i,s,hs,v,rfl⟩:=hmem x hx
   have:=(List.getElem?_eq_some_iff.1 hs).1
   show i<L.length
   omega
  ·rw[hborn]
   exact List.nodup_range
  ·rw[hkeys]
   exact List.pairwise_map.2 (hnd.imp fun hne e=>hne (Go.encStr_inj e))
  ·obtain⟨s,_,h⟩:=hrd x hx
   exact⟨_,h⟩
 have hm0:w.cell? ⟨b0,0,none⟩=some (.map (some b)):=by
  simpa[World.cell?,hheap0]using e1
 have hblt:=(hlie.blk 100001 (.box 116 [.mp 100000]) b0 rfl hb0).1
 refine(callsIn_wide.1 (Tryz.Ol b0 b K.length (zB K) _ w hblt hm0 hown (by rw[uY];unfold maxLen;omega) (by rw[uY];omega))).mono fun e w' ⟨v,ss,he,hp,hrow,hnil,hbl⟩=>⟨v,fun k=>ok k∨(w.heap.size≤k∧k<w'.heap.size),h,he,?_⟩
 have hss:ss.mergeSort (fun x y=>decide (x≤y))=srt K:=Go.mergeSort_of_perm (hp.trans (Eh K))
 rw[hss]at hrow
 have hsl:ss.length=(srt K).length:=by rw[←hss,List.length_mergeSort]
 rw[hsl]at hrow
 refine⟨hbl.os,hbl.tape,hbl.output,hbl.size,fun k hk _=>hbl.block k hk,fun k hk=> .inl hk,fun k hk=>?_,⟨fun id o hid=>?_,fun id o b' hid hb'=>?_,hlie.apart⟩,fun id o b' hid hb'=> .inr ⟨o,hid,hb'⟩,fun _ _=>rfl,?_⟩
 ·rcases hk with hk|hk
  ·exact⟨Nat.lt_of_lt_of_le (hok k hk) hbl.size,.inl hk⟩
  ·exact⟨hk.2,.inr hk.1⟩
 ·exact(hlie.obj id o hid).mono (fun b' hb'=>hbl.block b' (hok b' hb')) (fun _ h=> .inl h) fun b' hb'=>hbl.block b' (hlie.blk id o b' hid hb').1
 ·have:=hlie.blk id o b' hid hb'
  exact⟨Nat.lt_of_lt_of_le this.1 hbl.size,fun hx=>hx.elim this.2 fun hx=>by omega⟩
 ·refine .d _ _ ?_
  obtain⟨hlen2,hx⟩:=hrow
  rcases hx with⟨rfl,h0⟩|⟨g,cap,cur,rfl,hg,hcur,hc1,hc2,hc3,hc4⟩
  ·have:srt K=[]:=List.length_eq_zero_iff.1 h0
   show RdD w' _ (.sl (srt K).length fun i=>[str ((srt K)[i]?.getD [])]) _
   rw[this]
   exact .sl 0 _ none 0 1 0 0 (fun _ _=> .bool true) (Nat.le_refl _) (Nat.zero_le _) (fun h=>absurd h qE) (fun i hi=>by simp at hi) (fun i k hi=>by simp at hi) (fun i k d hi=>by simp at hi)
  ·have hgl:g<w'.heap.size:=by
    rcases Nat.lt_or_ge g w'.heap.size with h|h
    ·exact h
    ·rw[Array.getElem?_eq_none h]at hcur;cases hcur
   refine .sl (srt K).length _ _ cap 1 g 0 (fun i _=>Go.Proofs.encStr ((srt K)[i]?.getD [])) hc1 hc2 (fun _=>⟨rfl,.inr ⟨hg,hgl⟩⟩) (fun i hi=>by simp) (fun i k hi hk=>?_) (fun i k d hi hd=>?_)
   ·obtain rfl:k=0:=by omega
    have h1:=congrArg (·[i]?) hc4
    simp only[List.getElem?_take,List.getElem?_map,Nat.mul_one,hi,if_true,List.getElem?_eq_getElem hi,Option.map_some]at h1
    simp only[World.cell?,hcur]
    simpa[List.getElem?_eq_getElem hi]using h1
   ·cases k with
    |zero=>cases hd;exact .lit _
    |succ k=>simp at hd
set_option maxHeartbeats 1000000
def iT (a:Adr):Bs:=(Cu (eF a).1).1
theorem uZ (a:Adr):(eF a).1.Fits:=by
 have hz:Adr.zero.Fits:=⟨qE,qE,qE,qE,qE,qE⟩
 unfold eF
 split
 ·exact hz
 ·rename_i h
  split
  ·exact hz
  ·exact Cx (Classical.not_not.1 h)
theorem Ho (a:Adr) (hf:a.Fits):aJ Tryz.prog 123 [dI a] (str (iT a)):=by
 refine aW Tryz.func123 rfl qC Tryz.ntmps123 _ rfl qE fun C hc=>?_
 have hN:=nW kL a hf
 have hT:=JV (eF a).1 (uZ a)
 unfold iT
 generalize eF a=n at hN hT⊢
 generalize Cu n.1=t at hT⊢
 repeat' (first|refine Wd ?_|(refine Wc ?_ ?_<;>intro hb<;>try simp at hb)|refine Zw hc (hf:=by first|exact hN|exact hT) (hk:=?_)|refine Zq hc (hf:=by first|exact hN|exact hT) (hk:=?_)|refine Wn ?_|fail)
 (refine Zl hc (hr:=?_))
 simp
def Om (s:Bs):Bool:=decide ((dR s).2.2=0)&&decide (iT (dR s).1=s)
theorem Jb (s:Bs):(dR s).1.Fits:=by
 have hz:Adr.zero.Fits:=⟨qE,qE,qE,qE,qE,qE⟩
 rcases Av s with⟨_,h⟩|⟨_,_,h,_⟩
 ·rw[h];exact hz
 ·exact pM h
theorem Hp (s:Bs) (hm:s.length≤9223372036854775807):aJ Tryz.prog 109 [str s] (tru (Om s)):=by
 refine aW Tryz.func109 rfl qC Tryz.ntmps109 _ rfl qE fun C hc=>?_
 have hR:=DK s hm
 have hP:=Ho (dR s).1 (Jb s)
 unfold Om
 generalize dR s=r at hR hP⊢
 obtain⟨r,n,f⟩:=r
 simp only[JU]at hR hP⊢
 generalize iT r=q at hP⊢
 by_cases h:f=0
 ·subst h
  repeat' (first|refine Wd ?_|(refine Wc ?_ ?_<;>intro hb<;>try simp at hb)|refine Zw hc (hf:=by first|exact hR|exact hP) (hk:=?_)|refine Zq hc (hf:=by first|exact hR|exact hP) (hk:=?_)|refine Wn ?_|fail)
  all_goals try contradiction
  (refine Zl hc (hr:=?_))
  refine bT ?_
  rw[Bool.eq_iff_iff];simp
 ·repeat' (first|refine Wd ?_|(refine Wc ?_ ?_<;>intro hb<;>try simp at hb)|refine Zw hc (hf:=qaV) (hk:=?_)|refine Zq hc (hf:=qaV) (hk:=?_)|refine Wn ?_|fail)
  all_goals try contradiction
  (refine Zl hc (hr:=?_))
  refine bT ?_
  rw[Bool.eq_iff_iff];simp[h]
abbrev Trn:=Bs×Bs
abbrev Tu (x:Trn):List D:=[str x.1,str x.2]
abbrev bL (L:List Trn) (j:Nat):Trn:=L[j]?.getD ([],[])
abbrev mX (L:List Trn):D:= .sl L.length fun i=>Tu (bL L i)
abbrev RB:Bs:=[34,39,40,41,44,60,62]
def x9 (s:Bs) (j:Nat):Bool:=if j<s.length then(if(s[j]?.getD 0).toNat<33∨126<(s[j]?.getD 0).toNat∨0≤Lib.indexByte RB (s[j]?.getD 0)then true else x9 s (j+1))else false
termination_by s.length-j
def u4 (L:List Trn) (j:Nat):Nat:=if j<L.length then
    (if Om (bL L j).1=false then 3 else if(bL L j).2.length<1∨2000<(bL L j).2.length then 3 else if x9 (bL L j).2 0=true then 3
     else if 0<j∧leB (bL L j).1 (bL L (j-1)).1 then 8 else u4 L (j+1))else 0
termination_by L.length-j
def oN (L:List Trn):Nat:=if 5000<L.length then 2 else u4 L 0
theorem Bc (L:List Trn) (j:Nat) (h:u4 L j=0): ∀i,j≤i→i<L.length→(bL L i).2.length≤2000∧(0<i→ ¬leB (bL L i).1 (bL L (i-1)).1):=by
 rw[u4]at h
 intro i h1 h2
 rw[if_pos qD]at h
 split at h
 ·cases h
 split at h
 ·cases h
 split at h
 ·cases h
 split at h
 ·cases h
 rename_i k1 k2 k3 k4
 rcases Nat.lt_or_ge j i with h3|h3
 ·exact Bc L (j+1) h i qD h2
 ·obtain rfl:i=j:=by omega
  exact⟨qD,fun h0 hl=>k4 ⟨h0,hl⟩⟩
termination_by L.length-j
abbrev oO (L:List Trn) (j:Nat):Bs:=(bL L j).1
theorem Kj {L:List Trn} (h:oN L=0):L.length≤5000∧S1 (oO L) L.length∧ ∀i,(bL L i).2.length≤2000:=by
 unfold oN at h
 split at h
 ·cases h
 rename_i hl
 have hz:=Bc L 0 h
 refine⟨qD,PU _ _ fun j h0 hj=>(hz j (Nat.zero_le _) hj).2 h0,fun i=>?_⟩
 by_cases hi:i<L.length
 ·exact(hz i (Nat.zero_le _) hi).1
 ·unfold bL
  rw[List.getElem?_eq_none qD]
  simp
theorem rZ (L:List Trn) (hm: ∀i,(bL L i).1.length≤9223372036854775807∧(bL L i).2.length≤9223372036854775807):aJ Tryz.prog 51 [mX L] (int (oN L)):=by
 refine aW Tryz.func51 rfl qC Tryz.ntmps51 _ rfl qE fun C hc=>?_
 unfold oN
 repeat' (first|refine Wd ?_|(refine Wc ?_ ?_<;>intro hb<;>try simp at hb)|refine Wn ?_|fail)
 ·rw[if_pos qD]
  (refine Zl hc (hr:=?_))
  simp
 rw[if_neg qD]
 refine aN (fun j:Nat=>⟨[(0,.d (mX L)),(10,.d (mX L)),(11,.d (int L.length)),(12,.d (int j))],[]⟩) (fun j=>j≤L.length∧u4 L 0=u4 L j) (fun j=>L.length-j) 0 qE (aG [0,10,11,12] [] qA qA) ?_
 rintro j ⟨hj,hA⟩
 have hst:u4 L j=if j<L.length then
  (if Om (bL L j).1=false then 3 else if(bL L j).2.length<1∨2000<(bL L j).2.length then 3 else if x9 (bL L j).2 0=true then 3
   else if 0<j∧leB (bL L j).1 (bL L (j-1)).1 then 8 else u4 L (j+1))else 0:=by rw[u4]
 by_cases hlt:j<L.length
 rotate_left
 ·rw[hA,hst,if_neg hlt]
  repeat' (first|refine Wd ?_|(refine Wc ?_ ?_<;>intro hb<;>try simp at hb)|refine Wn ?_|fail)
  all_goals try(exfalso;omega)
  (refine Zl hc (hr:=?_))
  simp
 have hN:=Hp (bL L j).1 (hm j).1
 have hm2:=(hm j).2
 rw[if_pos hlt]at hst
 generalize Om (bL L j).1=b at hN hst
 cases b with
 |false=>
  rw[hA,hst,if_pos rfl]
  repeat' (first|refine Wd ?_|(refine Wc ?_ ?_<;>intro hb<;>try simp at hb)|refine Zw hc (hf:=qaT) (hk:=?_)|refine Zq hc (hf:=qaT) (hk:=?_)|refine Wn ?_|fail)
  all_goals try contradiction
  all_goals try(exfalso;omega)
  (refine Zl hc (hr:=?_))
  simp
 |true=>
  rw[if_neg (show¬true=false by decide)]at hst
  by_cases h2:(bL L j).2.length<1∨2000<(bL L j).2.length
  ·rw[hA,hst,if_pos h2]
   repeat' (first|refine Wd ?_|(refine Wc ?_ ?_<;>intro hb<;>try simp at hb)|refine Zw hc (hf:=qaT) (hk:=?_)|refine Zq hc (hf:=qaT) (hk:=?_)|refine Wn ?_|fail)
   all_goals try contradiction
   all_goals try(exfalso;omega)
   (refine Zl hc (hr:=?_))
   simp
  rw[if_neg h2]at hst
  repeat' (first|refine Wd ?_|(refine Wc ?_ ?_<;>intro hb<;>try simp at hb)|refine Zw hc (hf:=qaT) (hk:=?_)|refine Zq hc (hf:=qaT) (hk:=?_)|refine Wn ?_|fail)
  all_goals try contradiction
  all_goals try(exfalso;omega)
  refine aN (fun k:Nat=>⟨[(0,.d (mX L)),(3,.d (int j)),(4,.bp 4 0),(10,.d (mX L)),(11,.d (int L.length)),(12,.d (int j)),(33,.d (int (bL L j).2.length)),(34,.d (int k))],[(4,.box 127 [.d (str (bL L j).1),.d (str (bL L j).2)])]⟩) (fun k=>k≤(bL L j).2.length∧x9 (bL L j).2 0=x9 (bL L j).2 k) (fun k=>(bL L j).2.length-k) 0 qE (aG [0,3,4,10,11,12,33,34] [4] qA qA) ?_
  rintro k ⟨hk,hB⟩
  have hbs:x9 (bL L j).2 k=if k<(bL L j).2.length then(if((bL L j).2[k]?.getD 0).toNat<33∨126<((bL L j).2[k]?.getD 0).toNat∨0≤Lib.indexByte RB ((bL L j).2[k]?.getD 0)then true else x9 (bL L j).2 (k+1))else false:=by rw[x9]
  by_cases hkl:k<(bL L j).2.length
  ·rw[if_pos hkl]at hbs
   have hI:=bZ RB ((bL L j).2[k]?.getD 0)
   generalize Lib.indexByte RB ((bL L j).2[k]?.getD 0)=ib at hI hbs
   by_cases hc3:((bL L j).2[k]?.getD 0).toNat<33∨126<((bL L j).2[k]?.getD 0).toNat∨0≤ib
   ·rw[if_pos hc3]at hbs
    rw[hA,hst,if_pos (hB.trans hbs)]
    repeat' (first|refine Wd ?_|(refine Wc ?_ ?_<;>intro hb<;>try simp at hb)|refine Zw hc (hf:=Qu) (hk:=?_)|refine Zq hc (hf:=Qu) (hk:=?_)|refine Wn ?_|fail)
    all_goals try contradiction
    all_goals try(exfalso;omega)
    (refine Zl hc (hr:=?_))
    simp
   ·rw[if_neg hc3]at hbs
    repeat' (first|refine Wd ?_|(refine Wc ?_ ?_<;>intro hb<;>try simp at hb)|refine Zw hc (hf:=Qu) (hk:=?_)|refine Zq hc (hf:=Qu) (hk:=?_)|refine Wn ?_|fail)
    all_goals try contradiction
    all_goals try(exfalso;omega)
    exact⟨k+1,⟨qD,hB.trans hbs⟩,qD,aC [0,3,4,10,11,12,33,34] [4] qA qA qE⟩
  ·rw[if_neg hkl]at hbs
   rw[if_neg (by rw[hB,hbs];decide)]at hst
   by_cases h0:0<j
   ·have e:((j:Int)-1).toNat=j-1:=by omega
    repeat' (first|refine Wd ?_|(refine Wc ?_ ?_<;>intro hb<;>try simp at hb)|refine Wn ?_|fail)
    all_goals try contradiction
    all_goals try(exfalso;omega)
    ·rw[hA,hst,if_pos ⟨h0,by simp_all⟩]
     (refine Zl hc (hr:=?_))
     simp
    ·exact⟨j+1,⟨qD,by rw[hA,hst,if_neg (by simp_all)]⟩,qD,aC [0,10,11,12] [] qA qA qE⟩
   ·rw[if_neg (fun h=>h0 h.1)]at hst
    repeat' (first|refine Wd ?_|(refine Wc ?_ ?_<;>intro hb<;>try simp at hb)|refine Wn ?_|fail)
    all_goals try contradiction
    all_goals try(exfalso;omega)
    exact⟨j+1,⟨qD,hA.trans hst⟩,qD,aC [0,10,11,12] [] qA qA qE⟩
end Go.Proofs.YtdjfgcjlnfnfhaaGreatDoor
