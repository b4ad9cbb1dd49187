/- DIGESTS, by what is asked of them only: a number's sixteen digits. -/
import Derived.Test.YtdjfgcjlnfnfhaaGreatDoorLwEx
import Derived.Test.YtdjfgcjlnfnfhaaGreatDoorAdA
import Derived.Test.YtdjfgcjlnfnfhaaGreatDoorMsB
set_option linter.unusedSimpArgs false
set_option linter.unusedVariables false
namespace Go.Proofs.YtdjfgcjlnfnfhaaGreatDoor
open Go.Lw Go.RowKit
set_option maxRecDepth 100000
set_option maxHeartbeats 2000000
theorem Vx {ρ:Type} {P:Program} {nt:Nat} {G:ρ→Prop} {st:St} {o:Oper} {ops:Array Oper} {rest:List Oper} {K:ρ→Ctx→St→Prop} (h:Exs P nt G fun r C=>cC C ops rest (st.put o.dst .any) (K r C)) (hw:aA (gE ops o st) false:=by simp;exact aA.mk) (hd:cV nt o.dst=true:=by simp):Exs P nt G fun r C=>cC C ops (o::rest) st (K r C):=
 aQ (fun r C hc h=>iM hc hw hd h.get) h
theorem DA (L:List Bs) (s:Bs) (j:Nat): -1≤tT L s j∧tT L s j<(L.length:Int):=by
 rw[tT]
 split
 ·split
  ·omega
  ·exact DA L s (j+1)
 ·omega
termination_by L.length-j
theorem Iv (s:Bs) (hs:s.length≤1000000):aV Tryz.prog 281 [str s] (fun d=> ∃(t:Int) (ok:Bool),d= .tup [.lit (.int .i64 t),tru ok]∧(ok=true→0≤t∧t≤253402300799)):=by
 refine bI Tryz.func281 rfl qC Tryz.ntmps281 _ rfl qE ?_
 by_cases h29:s.length=29
 ·have hM:aJ Tryz.prog 329 [] (cE mnL):=Cf
  repeat' (first|refine Va ?_|(with_reducible refine aB (ht:=fun hb=>?_) (hf:=fun hb=>?_)<;>(try simp at hb))|refine Vn ?_|refine Vl (hG:=?_)|fail)
  all_goals(try(exfalso;omega))
  have hI:=rF mnL ((s.take 11).drop 8) qK
  obtain⟨k1,k2⟩:=DA mnL ((s.take 11).drop 8) 0
  generalize tT _ _ 0=k at*
  have k3:k<12:=k2
  refine aQ (by
   intro r C hc hh
   refine bA (aG [0] [] qA qA) ?_
   (apply Xd 6 hc;(focus(refine Xm 1 hc (hk:=?_);refine Xa [0,2] (hx:=?_);refine⟨?_,?_⟩;(focus(refine Xc hc (hf:=hM) (hk:=?_);refine Xa [2] (hx:=?_);(focus(refine Xw hc (hk:=?_);refine Xa [3] (hx:=?_);(focus(refine Xc hc (hf:=hI) (hk:=?_);refine Xp 4 hc (hk:=?_);refine Xm 5 hc (hk:=?_);refine Xz (hk:=?_);exact Xk [0,4] []))))));(focus(refine Xw hc (hk:=?_);refine Xa [0] (hx:=?_);(focus(refine Xc hc (hf:=hM) (hk:=?_);refine Xa [3] (hx:=?_);(focus(refine Xc hc (hf:=hI) (hk:=?_);refine Xp 4 hc (hk:=?_);refine Xm 5 hc (hk:=?_);refine Xz (hk:=?_);exact Xb [0,4] [])))))))))
   exact hh.get) ?_
  repeat' (first|refine Va ?_|(with_reducible refine aB (ht:=fun hb=>?_) (hf:=fun hb=>?_)<;>(try simp at hb))|refine Vn ?_|refine Vl (hG:=?_)|fail)
  refine aQ (by
   intro r C hc hh
   refine bA (aG [0,4,5] [] qA qA) ?_
   (apply Xd 13 hc;(focus(refine Xm 0 hc (hk:=?_);refine Xm 2 hc (hk:=?_);refine Xm 4 hc (hk:=?_);refine Xm 6 hc (hk:=?_);refine Xm 8 hc (hk:=?_);refine Xm 12 hc (hk:=?_);refine Xa [1,3,5,7,9] (hx:=?_);refine⟨?_,?_,?_,?_,?_⟩;(focus(refine Xw hc (hk:=?_);refine Xa [3,5,7,9] (hx:=?_);refine⟨?_,?_,?_,?_⟩;(focus(refine Xw hc (hk:=?_);refine Xa [5,7,9] (hx:=?_);refine⟨?_,?_,?_⟩;(focus(refine Xw hc (hk:=?_);refine Xa [7,9] (hx:=?_);refine⟨?_,?_⟩;(focus(refine Xw hc (hk:=?_);refine Xa [9] (hx:=?_);(focus(refine Xw hc (hk:=?_);refine Xa [10] (hx:=?_);(focus(refine Xw hc (hk:=?_);refine Xg 11 hc (hk:=?_);refine Xz (hk:=?_);exact Xk [0,4,5,29,30,31] [29]))))));(focus(refine Xw hc (hk:=?_);refine Xa [7] (hx:=?_);(focus(refine Xw hc (hk:=?_);refine Xa [10] (hx:=?_);(focus(refine Xw hc (hk:=?_);refine Xg 11 hc (hk:=?_);refine Xz (hk:=?_);exact Xb [0,4,5,29,30,31] [29]))))))));(focus(refine Xw hc (hk:=?_);refine Xa [5,9] (hx:=?_);refine⟨?_,?_⟩;(focus(refine Xw hc (hk:=?_);refine Xa [9] (hx:=?_);(focus(refine Xw hc (hk:=?_);refine Xa [10] (hx:=?_);(focus(refine Xw hc (hk:=?_);refine Xg 11 hc (hk:=?_);refine Xz (hk:=?_);exact Xb [0,4,5,29,30,31] [29]))))));(focus(refine Xw hc (hk:=?_);refine Xa [5] (hx:=?_);(focus(refine Xw hc (hk:=?_);refine Xa [10] (hx:=?_);(focus(refine Xw hc (hk:=?_);refine Xg 11 hc (hk:=?_);refine Xz (hk:=?_);exact Xb [0,4,5,29,30,31] [29]))))))));(focus(refine Xw hc (hk:=?_);refine Xa [5,7] (hx:=?_);refine⟨?_,?_⟩;(focus(refine Xw hc (hk:=?_);refine Xa [7] (hx:=?_);(focus(refine Xw hc (hk:=?_);refine Xa [10] (hx:=?_);(focus(refine Xw hc (hk:=?_);refine Xg 11 hc (hk:=?_);refine Xz (hk:=?_);exact Xb [0,4,5,29,30,31] [29]))))));(focus(refine Xw hc (hk:=?_);refine Xa [5] (hx:=?_);(focus(refine Xw hc (hk:=?_);refine Xa [10] (hx:=?_);(focus(refine Xw hc (hk:=?_);refine Xg 11 hc (hk:=?_);refine Xz (hk:=?_);exact Xb [0,4,5,29,30,31] [29]))))))))));(focus(refine Xw hc (hk:=?_);refine Xa [3,7,9] (hx:=?_);refine⟨?_,?_,?_⟩;(focus(refine Xw hc (hk:=?_);refine Xa [7,9] (hx:=?_);refine⟨?_,?_⟩;(focus(refine Xw hc (hk:=?_);refine Xa [9] (hx:=?_);(focus(refine Xw hc (hk:=?_);refine Xa [10] (hx:=?_);(focus(refine Xw hc (hk:=?_);refine Xg 11 hc (hk:=?_);refine Xz (hk:=?_);exact Xb [0,4,5,29,30,31] [29]))))));(focus(refine Xw hc (hk:=?_);refine Xa [7] (hx:=?_);(focus(refine Xw hc (hk:=?_);refine Xa [10] (hx:=?_);(focus(refine Xw hc (hk:=?_);refine Xg 11 hc (hk:=?_);refine Xz (hk:=?_);exact Xb [0,4,5,29,30,31] [29]))))))));(focus(refine Xw hc (hk:=?_);refine Xa [3,9] (hx:=?_);refine⟨?_,?_⟩;(focus(refine Xw hc (hk:=?_);refine Xa [9] (hx:=?_);(focus(refine Xw hc (hk:=?_);refine Xa [10] (hx:=?_);(focus(refine Xw hc (hk:=?_);refine Xg 11 hc (hk:=?_);refine Xz (hk:=?_);exact Xb [0,4,5,29,30,31] [29]))))));(focus(refine Xw hc (hk:=?_);refine Xa [3] (hx:=?_);(focus(refine Xw hc (hk:=?_);refine Xa [10] (hx:=?_);(focus(refine Xw hc (hk:=?_);refine Xg 11 hc (hk:=?_);refine Xz (hk:=?_);exact Xb [0,4,5,29,30,31] [29]))))))));(focus(refine Xw hc (hk:=?_);refine Xa [3,7] (hx:=?_);refine⟨?_,?_⟩;(focus(refine Xw hc (hk:=?_);refine Xa [7] (hx:=?_);(focus(refine Xw hc (hk:=?_);refine Xa [10] (hx:=?_);(focus(refine Xw hc (hk:=?_);refine Xg 11 hc (hk:=?_);refine Xz (hk:=?_);exact Xb [0,4,5,29,30,31] [29]))))));(focus(refine Xw hc (hk:=?_);refine Xa [3] (hx:=?_);(focus(refine Xw hc (hk:=?_);refine Xa [10] (hx:=?_);(focus(refine Xw hc (hk:=?_);refine Xg 11 hc (hk:=?_);refine Xz (hk:=?_);exact Xb [0,4,5,29,30,31] [29]))))))))));(focus(refine Xw hc (hk:=?_);refine Xa [3,5,9] (hx:=?_);refine⟨?_,?_,?_⟩;(focus(refine Xw hc (hk:=?_);refine Xa [5,9] (hx:=?_);refine⟨?_,?_⟩;(focus(refine Xw hc (hk:=?_);refine Xa [9] (hx:=?_);(focus(refine Xw hc (hk:=?_);refine Xa [10] (hx:=?_);(focus(refine Xw hc (hk:=?_);refine Xg 11 hc (hk:=?_);refine Xz (hk:=?_);exact Xb [0,4,5,29,30,31] [29]))))));(focus(refine Xw hc (hk:=?_);refine Xa [5] (hx:=?_);(focus(refine Xw hc (hk:=?_);refine Xa [10] (hx:=?_);(focus(refine Xw hc (hk:=?_);refine Xg 11 hc (hk:=?_);refine Xz (hk:=?_);exact Xb [0,4,5,29,30,31] [29]))))))));(focus(refine Xw hc (hk:=?_);refine Xa [3,9] (hx:=?_);refine⟨?_,?_⟩;(focus(refine Xw hc (hk:=?_);refine Xa [9] (hx:=?_);(focus(refine Xw hc (hk:=?_);refine Xa [10] (hx:=?_);(focus(refine Xw hc (hk:=?_);refine Xg 11 hc (hk:=?_);refine Xz (hk:=?_);exact Xb [0,4,5,29,30,31] [29]))))));(focus(refine Xw hc (hk:=?_);refine Xa [3] (hx:=?_);(focus(refine Xw hc (hk:=?_);refine Xa [10] (hx:=?_);(focus(refine Xw hc (hk:=?_);refine Xg 11 hc (hk:=?_);refine Xz (hk:=?_);exact Xb [0,4,5,29,30,31] [29]))))))));(focus(refine Xw hc (hk:=?_);refine Xa [3,5] (hx:=?_);refine⟨?_,?_⟩;(focus(refine Xw hc (hk:=?_);refine Xa [5] (hx:=?_);(focus(refine Xw hc (hk:=?_);refine Xa [10] (hx:=?_);(focus(refine Xw hc (hk:=?_);refine Xg 11 hc (hk:=?_);refine Xz (hk:=?_);exact Xb [0,4,5,29,30,31] [29]))))));(focus(refine Xw hc (hk:=?_);refine Xa [3] (hx:=?_);(focus(refine Xw hc (hk:=?_);refine Xa [10] (hx:=?_);(focus(refine Xw hc (hk:=?_);refine Xg 11 hc (hk:=?_);refine Xz (hk:=?_);exact Xb [0,4,5,29,30,31] [29]))))))))));(focus(refine Xw hc (hk:=?_);refine Xa [3,5,7] (hx:=?_);refine⟨?_,?_,?_⟩;(focus(refine Xw hc (hk:=?_);refine Xa [5,7] (hx:=?_);refine⟨?_,?_⟩;(focus(refine Xw hc (hk:=?_);refine Xa [7] (hx:=?_);(focus(refine Xw hc (hk:=?_);refine Xa [10] (hx:=?_);(focus(refine Xw hc (hk:=?_);refine Xg 11 hc (hk:=?_);refine Xz (hk:=?_);exact Xb [0,4,5,29,30,31] [29]))))));(focus(refine Xw hc (hk:=?_);refine Xa [5] (hx:=?_);(focus(refine Xw hc (hk:=?_);refine Xa [10] (hx:=?_);(focus(refine Xw hc (hk:=?_);refine Xg 11 hc (hk:=?_);refine Xz (hk:=?_);exact Xb [0,4,5,29,30,31] [29]))))))));(focus(refine Xw hc (hk:=?_);refine Xa [3,7] (hx:=?_);refine⟨?_,?_⟩;(focus(refine Xw hc (hk:=?_);refine Xa [7] (hx:=?_);(focus(refine Xw hc (hk:=?_);refine Xa [10] (hx:=?_);(focus(refine Xw hc (hk:=?_);refine Xg 11 hc (hk:=?_);refine Xz (hk:=?_);exact Xb [0,4,5,29,30,31] [29]))))));(focus(refine Xw hc (hk:=?_);refine Xa [3] (hx:=?_);(focus(refine Xw hc (hk:=?_);refine Xa [10] (hx:=?_);(focus(refine Xw hc (hk:=?_);refine Xg 11 hc (hk:=?_);refine Xz (hk:=?_);exact Xb [0,4,5,29,30,31] [29]))))))));(focus(refine Xw hc (hk:=?_);refine Xa [3,5] (hx:=?_);refine⟨?_,?_⟩;(focus(refine Xw hc (hk:=?_);refine Xa [5] (hx:=?_);(focus(refine Xw hc (hk:=?_);refine Xa [10] (hx:=?_);(focus(refine Xw hc (hk:=?_);refine Xg 11 hc (hk:=?_);refine Xz (hk:=?_);exact Xb [0,4,5,29,30,31] [29]))))));(focus(refine Xw hc (hk:=?_);refine Xa [3] (hx:=?_);(focus(refine Xw hc (hk:=?_);refine Xa [10] (hx:=?_);(focus(refine Xw hc (hk:=?_);refine Xg 11 hc (hk:=?_);refine Xz (hk:=?_);exact Xb [0,4,5,29,30,31] [29]))))))))))));(focus(refine Xw hc (hk:=?_);refine Xa [1,5,7,9] (hx:=?_);refine⟨?_,?_,?_,?_⟩;(focus(refine Xw hc (hk:=?_);refine Xa [5,7,9] (hx:=?_);refine⟨?_,?_,?_⟩;(focus(refine Xw hc (hk:=?_);refine Xa [7,9] (hx:=?_);refine⟨?_,?_⟩;(focus(refine Xw hc (hk:=?_);refine Xa [9] (hx:=?_);(focus(refine Xw hc (hk:=?_);refine Xa [10] (hx:=?_);(focus(refine Xw hc (hk:=?_);refine Xg 11 hc (hk:=?_);refine Xz (hk:=?_);exact Xb [0,4,5,29,30,31] [29]))))));(focus(refine Xw hc (hk:=?_);refine Xa [7] (hx:=?_);(focus(refine Xw hc (hk:=?_);refine Xa [10] (hx:=?_);(focus(refine Xw hc (hk:=?_);refine Xg 11 hc (hk:=?_);refine Xz (hk:=?_);exact Xb [0,4,5,29,30,31] [29]))))))));(focus(refine Xw hc (hk:=?_);refine Xa [5,9] (hx:=?_);refine⟨?_,?_⟩;(focus(refine Xw hc (hk:=?_);refine Xa [9] (hx:=?_);(focus(refine Xw hc (hk:=?_);refine Xa [10] (hx:=?_);(focus(refine Xw hc (hk:=?_);refine Xg 11 hc (hk:=?_);refine Xz (hk:=?_);exact Xb [0,4,5,29,30,31] [29]))))));(focus(refine Xw hc (hk:=?_);refine Xa [5] (hx:=?_);(focus(refine Xw hc (hk:=?_);refine Xa [10] (hx:=?_);(focus(refine Xw hc (hk:=?_);refine Xg 11 hc (hk:=?_);refine Xz (hk:=?_);exact Xb [0,4,5,29,30,31] [29]))))))));(focus(refine Xw hc (hk:=?_);refine Xa [5,7] (hx:=?_);refine⟨?_,?_⟩;(focus(refine Xw hc (hk:=?_);refine Xa [7] (hx:=?_);(focus(refine Xw hc (hk:=?_);refine Xa [10] (hx:=?_);(focus(refine Xw hc (hk:=?_);refine Xg 11 hc (hk:=?_);refine Xz (hk:=?_);exact Xb [0,4,5,29,30,31] [29]))))));(focus(refine Xw hc (hk:=?_);refine Xa [5] (hx:=?_);(focus(refine Xw hc (hk:=?_);refine Xa [10] (hx:=?_);(focus(refine Xw hc (hk:=?_);refine Xg 11 hc (hk:=?_);refine Xz (hk:=?_);exact Xb [0,4,5,29,30,31] [29]))))))))));(focus(refine Xw hc (hk:=?_);refine Xa [1,7,9] (hx:=?_);refine⟨?_,?_,?_⟩;(focus(refine Xw hc (hk:=?_);refine Xa [7,9] (hx:=?_);refine⟨?_,?_⟩;(focus(refine Xw hc (hk:=?_);refine Xa [9] (hx:=?_);(focus(refine Xw hc (hk:=?_);refine Xa [10] (hx:=?_);(focus(refine Xw hc (hk:=?_);refine Xg 11 hc (hk:=?_);refine Xz (hk:=?_);exact Xb [0,4,5,29,30,31] [29]))))));(focus(refine Xw hc (hk:=?_);refine Xa [7] (hx:=?_);(focus(refine Xw hc (hk:=?_);refine Xa [10] (hx:=?_);(focus(refine Xw hc (hk:=?_);refine Xg 11 hc (hk:=?_);refine Xz (hk:=?_);exact Xb [0,4,5,29,30,31] [29]))))))));(focus(refine Xw hc (hk:=?_);refine Xa [1,9] (hx:=?_);refine⟨?_,?_⟩;(focus(refine Xw hc (hk:=?_);refine Xa [9] (hx:=?_);(focus(refine Xw hc (hk:=?_);refine Xa [10] (hx:=?_);(focus(refine Xw hc (hk:=?_);refine Xg 11 hc (hk:=?_);refine Xz (hk:=?_);exact Xb [0,4,5,29,30,31] [29]))))));(focus(refine Xw hc (hk:=?_);refine Xa [1] (hx:=?_);(focus(refine Xw hc (hk:=?_);refine Xa [10] (hx:=?_);(focus(refine Xw hc (hk:=?_);refine Xg 11 hc (hk:=?_);refine Xz (hk:=?_);exact Xb [0,4,5,29,30,31] [29]))))))));(focus(refine Xw hc (hk:=?_);refine Xa [1,7] (hx:=?_);refine⟨?_,?_⟩;(focus(refine Xw hc (hk:=?_);refine Xa [7] (hx:=?_);(focus(refine Xw hc (hk:=?_);refine Xa [10] (hx:=?_);(focus(refine Xw hc (hk:=?_);refine Xg 11 hc (hk:=?_);refine Xz (hk:=?_);exact Xb [0,4,5,29,30,31] [29]))))));(focus(refine Xw hc (hk:=?_);refine Xa [1] (hx:=?_);(focus(refine Xw hc (hk:=?_);refine Xa [10] (hx:=?_);(focus(refine Xw hc (hk:=?_);refine Xg 11 hc (hk:=?_);refine Xz (hk:=?_);exact Xb [0,4,5,29,30,31] [29]))))))))));(focus(refine Xw hc (hk:=?_);refine Xa [1,5,9] (hx:=?_);refine⟨?_,?_,?_⟩;(focus(refine Xw hc (hk:=?_);refine Xa [5,9] (hx:=?_);refine⟨?_,?_⟩;(focus(refine Xw hc (hk:=?_);refine Xa [9] (hx:=?_);(focus(refine Xw hc (hk:=?_);refine Xa [10] (hx:=?_);(focus(refine Xw hc (hk:=?_);refine Xg 11 hc (hk:=?_);refine Xz (hk:=?_);exact Xb [0,4,5,29,30,31] [29]))))));(focus(refine Xw hc (hk:=?_);refine Xa [5] (hx:=?_);(focus(refine Xw hc (hk:=?_);refine Xa [10] (hx:=?_);(focus(refine Xw hc (hk:=?_);refine Xg 11 hc (hk:=?_);refine Xz (hk:=?_);exact Xb [0,4,5,29,30,31] [29]))))))));(focus(refine Xw hc (hk:=?_);refine Xa [1,9] (hx:=?_);refine⟨?_,?_⟩;(focus(refine Xw hc (hk:=?_);refine Xa [9] (hx:=?_);(focus(refine Xw hc (hk:=?_);refine Xa [10] (hx:=?_);(focus(refine Xw hc (hk:=?_);refine Xg 11 hc (hk:=?_);refine Xz (hk:=?_);exact Xb [0,4,5,29,30,31] [29]))))));(focus(refine Xw hc (hk:=?_);refine Xa [1] (hx:=?_);(focus(refine Xw hc (hk:=?_);refine Xa [10] (hx:=?_);(focus(refine Xw hc (hk:=?_);refine Xg 11 hc (hk:=?_);refine Xz (hk:=?_);exact Xb [0,4,5,29,30,31] [29]))))))));(focus(refine Xw hc (hk:=?_);refine Xa [1,5] (hx:=?_);refine⟨?_,?_⟩;(focus(refine Xw hc (hk:=?_);refine Xa [5] (hx:=?_);(focus(refine Xw hc (hk:=?_);refine Xa [10] (hx:=?_);(focus(refine Xw hc (hk:=?_);refine Xg 11 hc (hk:=?_);refine Xz (hk:=?_);exact Xb [0,4,5,29,30,31] [29]))))));(focus(refine Xw hc (hk:=?_);refine Xa [1] (hx:=?_);(focus(refine Xw hc (hk:=?_);refine Xa [10] (hx:=?_);(focus(refine Xw hc (hk:=?_);refine Xg 11 hc (hk:=?_);refine Xz (hk:=?_);exact Xb [0,4,5,29,30,31] [29]))))))))));(focus(refine Xw hc (hk:=?_);refine Xa [1,5,7] (hx:=?_);refine⟨?_,?_,?_⟩;(focus(refine Xw hc (hk:=?_);refine Xa [5,7] (hx:=?_);refine⟨?_,?_⟩;(focus(refine Xw hc (hk:=?_);refine Xa [7] (hx:=?_);(focus(refine Xw hc (hk:=?_);refine Xa [10] (hx:=?_);(focus(refine Xw hc (hk:=?_);refine Xg 11 hc (hk:=?_);refine Xz (hk:=?_);exact Xb [0,4,5,29,30,31] [29]))))));(focus(refine Xw hc (hk:=?_);refine Xa [5] (hx:=?_);(focus(refine Xw hc (hk:=?_);refine Xa [10] (hx:=?_);(focus(refine Xw hc (hk:=?_);refine Xg 11 hc (hk:=?_);refine Xz (hk:=?_);exact Xb [0,4,5,29,30,31] [29]))))))));(focus(refine Xw hc (hk:=?_);refine Xa [1,7] (hx:=?_);refine⟨?_,?_⟩;(focus(refine Xw hc (hk:=?_);refine Xa [7] (hx:=?_);(focus(refine Xw hc (hk:=?_);refine Xa [10] (hx:=?_);(focus(refine Xw hc (hk:=?_);refine Xg 11 hc (hk:=?_);refine Xz (hk:=?_);exact Xb [0,4,5,29,30,31] [29]))))));(focus(refine Xw hc (hk:=?_);refine Xa [1] (hx:=?_);(focus(refine Xw hc (hk:=?_);refine Xa [10] (hx:=?_);(focus(refine Xw hc (hk:=?_);refine Xg 11 hc (hk:=?_);refine Xz (hk:=?_);exact Xb [0,4,5,29,30,31] [29]))))))));(focus(refine Xw hc (hk:=?_);refine Xa [1,5] (hx:=?_);refine⟨?_,?_⟩;(focus(refine Xw hc (hk:=?_);refine Xa [5] (hx:=?_);(focus(refine Xw hc (hk:=?_);refine Xa [10] (hx:=?_);(focus(refine Xw hc (hk:=?_);refine Xg 11 hc (hk:=?_);refine Xz (hk:=?_);exact Xb [0,4,5,29,30,31] [29]))))));(focus(refine Xw hc (hk:=?_);refine Xa [1] (hx:=?_);(focus(refine Xw hc (hk:=?_);refine Xa [10] (hx:=?_);(focus(refine Xw hc (hk:=?_);refine Xg 11 hc (hk:=?_);refine Xz (hk:=?_);exact Xb [0,4,5,29,30,31] [29]))))))))))));(focus(refine Xw hc (hk:=?_);refine Xa [1,3,7,9] (hx:=?_);refine⟨?_,?_,?_,?_⟩;(focus(refine Xw hc (hk:=?_);refine Xa [3,7,9] (hx:=?_);refine⟨?_,?_,?_⟩;(focus(refine Xw hc (hk:=?_);refine Xa [7,9] (hx:=?_);refine⟨?_,?_⟩;(focus(refine Xw hc (hk:=?_);refine Xa [9] (hx:=?_);(focus(refine Xw hc (hk:=?_);refine Xa [10] (hx:=?_);(focus(refine Xw hc (hk:=?_);refine Xg 11 hc (hk:=?_);refine Xz (hk:=?_);exact Xb [0,4,5,29,30,31] [29]))))));(focus(refine Xw hc (hk:=?_);refine Xa [7] (hx:=?_);(focus(refine Xw hc (hk:=?_);refine Xa [10] (hx:=?_);(focus(refine Xw hc (hk:=?_);refine Xg 11 hc (hk:=?_);refine Xz (hk:=?_);exact Xb [0,4,5,29,30,31] [29]))))))));(focus(refine Xw hc (hk:=?_);refine Xa [3,9] (hx:=?_);refine⟨?_,?_⟩;(focus(refine Xw hc (hk:=?_);refine Xa [9] (hx:=?_);(focus(refine Xw hc (hk:=?_);refine Xa [10] (hx:=?_);(focus(refine Xw hc (hk:=?_);refine Xg 11 hc (hk:=?_);refine Xz (hk:=?_);exact Xb [0,4,5,29,30,31] [29]))))));(focus(refine Xw hc (hk:=?_);refine Xa [3] (hx:=?_);(focus(refine Xw hc (hk:=?_);refine Xa [10] (hx:=?_);(focus(refine Xw hc (hk:=?_);refine Xg 11 hc (hk:=?_);refine Xz (hk:=?_);exact Xb [0,4,5,29,30,31] [29]))))))));(focus(refine Xw hc (hk:=?_);refine Xa [3,7] (hx:=?_);refine⟨?_,?_⟩;(focus(refine Xw hc (hk:=?_);refine Xa [7] (hx:=?_);(focus(refine Xw hc (hk:=?_);refine Xa [10] (hx:=?_);(focus(refine Xw hc (hk:=?_);refine Xg 11 hc (hk:=?_);refine Xz (hk:=?_);exact Xb [0,4,5,29,30,31] [29]))))));(focus(refine Xw hc (hk:=?_);refine Xa [3] (hx:=?_);(focus(refine Xw hc (hk:=?_);refine Xa [10] (hx:=?_);(focus(refine Xw hc (hk:=?_);refine Xg 11 hc (hk:=?_);refine Xz (hk:=?_);exact Xb [0,4,5,29,30,31] [29]))))))))));(focus(refine Xw hc (hk:=?_);refine Xa [1,7,9] (hx:=?_);refine⟨?_,?_,?_⟩;(focus(refine Xw hc (hk:=?_);refine Xa [7,9] (hx:=?_);refine⟨?_,?_⟩;(focus(refine Xw hc (hk:=?_);refine Xa [9] (hx:=?_);(focus(refine Xw hc (hk:=?_);refine Xa [10] (hx:=?_);(focus(refine Xw hc (hk:=?_);refine Xg 11 hc (hk:=?_);refine Xz (hk:=?_);exact Xb [0,4,5,29,30,31] [29]))))));(focus(refine Xw hc (hk:=?_);refine Xa [7] (hx:=?_);(focus(refine Xw hc (hk:=?_);refine Xa [10] (hx:=?_);(focus(refine Xw hc (hk:=?_);refine Xg 11 hc (hk:=?_);refine Xz (hk:=?_);exact Xb [0,4,5,29,30,31] [29]))))))));(focus(refine Xw hc (hk:=?_);refine Xa [1,9] (hx:=?_);refine⟨?_,?_⟩;(focus(refine Xw hc (hk:=?_);refine Xa [9] (hx:=?_);(focus(refine Xw hc (hk:=?_);refine Xa [10] (hx:=?_);(focus(refine Xw hc (hk:=?_);refine Xg 11 hc (hk:=?_);refine Xz (hk:=?_);exact Xb [0,4,5,29,30,31] [29]))))));(focus(refine Xw hc (hk:=?_);refine Xa [1] (hx:=?_);(focus(refine Xw hc (hk:=?_);refine Xa [10] (hx:=?_);(focus(refine Xw hc (hk:=?_);refine Xg 11 hc (hk:=?_);refine Xz (hk:=?_);exact Xb [0,4,5,29,30,31] [29]))))))));(focus(refine Xw hc (hk:=?_);refine Xa [1,7] (hx:=?_);refine⟨?_,?_⟩;(focus(refine Xw hc (hk:=?_);refine Xa [7] (hx:=?_);(focus(refine Xw hc (hk:=?_);refine Xa [10] (hx:=?_);(focus(refine Xw hc (hk:=?_);refine Xg 11 hc (hk:=?_);refine Xz (hk:=?_);exact Xb [0,4,5,29,30,31] [29]))))));(focus(refine Xw hc (hk:=?_);refine Xa [1] (hx:=?_);(focus(refine Xw hc (hk:=?_);refine Xa [10] (hx:=?_);(focus(refine Xw hc (hk:=?_);refine Xg 11 hc (hk:=?_);refine Xz (hk:=?_);exact Xb [0,4,5,29,30,31] [29]))))))))));(focus(refine Xw hc (hk:=?_);refine Xa [1,3,9] (hx:=?_);refine⟨?_,?_,?_⟩;(focus(refine Xw hc (hk:=?_);refine Xa [3,9] (hx:=?_);refine⟨?_,?_⟩;(focus(refine Xw hc (hk:=?_);refine Xa [9] (hx:=?_);(focus(refine Xw hc (hk:=?_);refine Xa [10] (hx:=?_);(focus(refine Xw hc (hk:=?_);refine Xg 11 hc (hk:=?_);refine Xz (hk:=?_);exact Xb [0,4,5,29,30,31] [29]))))));(focus(refine Xw hc (hk:=?_);refine Xa [3] (hx:=?_);(focus(refine Xw hc (hk:=?_);refine Xa [10] (hx:=?_);(focus(refine Xw hc (hk:=?_);refine Xg 11 hc (hk:=?_);refine Xz (hk:=?_);exact Xb [0,4,5,29,30,31] [29]))))))));(focus(refine Xw hc (hk:=?_);refine Xa [1,9] (hx:=?_);refine⟨?_,?_⟩;(focus(refine Xw hc (hk:=?_);refine Xa [9] (hx:=?_);(focus(refine Xw hc (hk:=?_);refine Xa [10] (hx:=?_);(focus(refine Xw hc (hk:=?_);refine Xg 11 hc (hk:=?_);refine Xz (hk:=?_);exact Xb [0,4,5,29,30,31] [29]))))));(focus(refine Xw hc (hk:=?_);refine Xa [1] (hx:=?_);(focus(refine Xw hc (hk:=?_);refine Xa [10] (hx:=?_);(focus(refine Xw hc (hk:=?_);refine Xg 11 hc (hk:=?_);refine Xz (hk:=?_);exact Xb [0,4,5,29,30,31] [29]))))))));(focus(refine Xw hc (hk:=?_);refine Xa [1,3] (hx:=?_);refine⟨?_,?_⟩;(focus(refine Xw hc (hk:=?_);refine Xa [3] (hx:=?_);(focus(refine Xw hc (hk:=?_);refine Xa [10] (hx:=?_);(focus(refine Xw hc (hk:=?_);refine Xg 11 hc (hk:=?_);refine Xz (hk:=?_);exact Xb [0,4,5,29,30,31] [29]))))));(focus(refine Xw hc (hk:=?_);refine Xa [1] (hx:=?_);(focus(refine Xw hc (hk:=?_);refine Xa [10] (hx:=?_);(focus(refine Xw hc (hk:=?_);refine Xg 11 hc (hk:=?_);refine Xz (hk:=?_);exact Xb [0,4,5,29,30,31] [29]))))))))));(focus(refine Xw hc (hk:=?_);refine Xa [1,3,7] (hx:=?_);refine⟨?_,?_,?_⟩;(focus(refine Xw hc (hk:=?_);refine Xa [3,7] (hx:=?_);refine⟨?_,?_⟩;(focus(refine Xw hc (hk:=?_);refine Xa [7] (hx:=?_);(focus(refine Xw hc (hk:=?_);refine Xa [10] (hx:=?_);(focus(refine Xw hc (hk:=?_);refine Xg 11 hc (hk:=?_);refine Xz (hk:=?_);exact Xb [0,4,5,29,30,31] [29]))))));(focus(refine Xw hc (hk:=?_);refine Xa [3] (hx:=?_);(focus(refine Xw hc (hk:=?_);refine Xa [10] (hx:=?_);(focus(refine Xw hc (hk:=?_);refine Xg 11 hc (hk:=?_);refine Xz (hk:=?_);exact Xb [0,4,5,29,30,31] [29]))))))));(focus(refine Xw hc (hk:=?_);refine Xa [1,7] (hx:=?_);refine⟨?_,?_⟩;(focus(refine Xw hc (hk:=?_);refine Xa [7] (hx:=?_);(focus(refine Xw hc (hk:=?_);refine Xa [10] (hx:=?_);(focus(refine Xw hc (hk:=?_);refine Xg 11 hc (hk:=?_);refine Xz (hk:=?_);exact Xb [0,4,5,29,30,31] [29]))))));(focus(refine Xw hc (hk:=?_);refine Xa [1] (hx:=?_);(focus(refine Xw hc (hk:=?_);refine Xa [10] (hx:=?_);(focus(refine Xw hc (hk:=?_);refine Xg 11 hc (hk:=?_);refine Xz (hk:=?_);exact Xb [0,4,5,29,30,31] [29]))))))));(focus(refine Xw hc (hk:=?_);refine Xa [1,3] (hx:=?_);refine⟨?_,?_⟩;(focus(refine Xw hc (hk:=?_);refine Xa [3] (hx:=?_);(focus(refine Xw hc (hk:=?_);refine Xa [10] (hx:=?_);(focus(refine Xw hc (hk:=?_);refine Xg 11 hc (hk:=?_);refine Xz (hk:=?_);exact Xb [0,4,5,29,30,31] [29]))))));(focus(refine Xw hc (hk:=?_);refine Xa [1] (hx:=?_);(focus(refine Xw hc (hk:=?_);refine Xa [10] (hx:=?_);(focus(refine Xw hc (hk:=?_);refine Xg 11 hc (hk:=?_);refine Xz (hk:=?_);exact Xb [0,4,5,29,30,31] [29]))))))))))));(focus(refine Xw hc (hk:=?_);refine Xa [1,3,5,9] (hx:=?_);refine⟨?_,?_,?_,?_⟩;(focus(refine Xw hc (hk:=?_);refine Xa [3,5,9] (hx:=?_);refine⟨?_,?_,?_⟩;(focus(refine Xw hc (hk:=?_);refine Xa [5,9] (hx:=?_);refine⟨?_,?_⟩;(focus(refine Xw hc (hk:=?_);refine Xa [9] (hx:=?_);(focus(refine Xw hc (hk:=?_);refine Xa [10] (hx:=?_);(focus(refine Xw hc (hk:=?_);refine Xg 11 hc (hk:=?_);refine Xz (hk:=?_);exact Xb [0,4,5,29,30,31] [29]))))));(focus(refine Xw hc (hk:=?_);refine Xa [5] (hx:=?_);(focus(refine Xw hc (hk:=?_);refine Xa [10] (hx:=?_);(focus(refine Xw hc (hk:=?_);refine Xg 11 hc (hk:=?_);refine Xz (hk:=?_);exact Xb [0,4,5,29,30,31] [29]))))))));(focus(refine Xw hc (hk:=?_);refine Xa [3,9] (hx:=?_);refine⟨?_,?_⟩;(focus(refine Xw hc (hk:=?_);refine Xa [9] (hx:=?_);(focus(refine Xw hc (hk:=?_);refine Xa [10] (hx:=?_);(focus(refine Xw hc (hk:=?_);refine Xg 11 hc (hk:=?_);refine Xz (hk:=?_);exact Xb [0,4,5,29,30,31] [29]))))));(focus(refine Xw hc (hk:=?_);refine Xa [3] (hx:=?_);(focus(refine Xw hc (hk:=?_);refine Xa [10] (hx:=?_);(focus(refine Xw hc (hk:=?_);refine Xg 11 hc (hk:=?_);refine Xz (hk:=?_);exact Xb [0,4,5,29,30,31] [29]))))))));(focus(refine Xw hc (hk:=?_);refine Xa [3,5] (hx:=?_);refine⟨?_,?_⟩;(focus(refine Xw hc (hk:=?_);refine Xa [5] (hx:=?_);(focus(refine Xw hc (hk:=?_);refine Xa [10] (hx:=?_);(focus(refine Xw hc (hk:=?_);refine Xg 11 hc (hk:=?_);refine Xz (hk:=?_);exact Xb [0,4,5,29,30,31] [29]))))));(focus(refine Xw hc (hk:=?_);refine Xa [3] (hx:=?_);(focus(refine Xw hc (hk:=?_);refine Xa [10] (hx:=?_);(focus(refine Xw hc (hk:=?_);refine Xg 11 hc (hk:=?_);refine Xz (hk:=?_);exact Xb [0,4,5,29,30,31] [29]))))))))));(focus(refine Xw hc (hk:=?_);refine Xa [1,5,9] (hx:=?_);refine⟨?_,?_,?_⟩;(focus(refine Xw hc (hk:=?_);refine Xa [5,9] (hx:=?_);refine⟨?_,?_⟩;(focus(refine Xw hc (hk:=?_);refine Xa [9] (hx:=?_);(focus(refine Xw hc (hk:=?_);refine Xa [10] (hx:=?_);(focus(refine Xw hc (hk:=?_);refine Xg 11 hc (hk:=?_);refine Xz (hk:=?_);exact Xb [0,4,5,29,30,31] [29]))))));(focus(refine Xw hc (hk:=?_);refine Xa [5] (hx:=?_);(focus(refine Xw hc (hk:=?_);refine Xa [10] (hx:=?_);(focus(refine Xw hc (hk:=?_);refine Xg 11 hc (hk:=?_);refine Xz (hk:=?_);exact Xb [0,4,5,29,30,31] [29]))))))));(focus(refine Xw hc (hk:=?_);refine Xa [1,9] (hx:=?_);refine⟨?_,?_⟩;(focus(refine Xw hc (hk:=?_);refine Xa [9] (hx:=?_);(focus(refine Xw hc (hk:=?_);refine Xa [10] (hx:=?_);(focus(refine Xw hc (hk:=?_);refine Xg 11 hc (hk:=?_);refine Xz (hk:=?_);exact Xb [0,4,5,29,30,31] [29]))))));(focus(refine Xw hc (hk:=?_);refine Xa [1] (hx:=?_);(focus(refine Xw hc (hk:=?_);refine Xa [10] (hx:=?_);(focus(refine Xw hc (hk:=?_);refine Xg 11 hc (hk:=?_);refine Xz (hk:=?_);exact Xb [0,4,5,29,30,31] [29]))))))));(focus(refine Xw hc (hk:=?_);refine Xa [1,5] (hx:=?_);refine⟨?_,?_⟩;(focus(refine Xw hc (hk:=?_);refine Xa [5] (hx:=?_);(focus(refine Xw hc (hk:=?_);refine Xa [10] (hx:=?_);(focus(refine Xw hc (hk:=?_);refine Xg 11 hc (hk:=?_);refine Xz (hk:=?_);exact Xb [0,4,5,29,30,31] [29]))))));(focus(refine Xw hc (hk:=?_);refine Xa [1] (hx:=?_);(focus(refine Xw hc (hk:=?_);refine Xa [10] (hx:=?_);(focus(refine Xw hc (hk:=?_);refine Xg 11 hc (hk:=?_);refine Xz (hk:=?_);exact Xb [0,4,5,29,30,31] [29]))))))))));(focus(refine Xw hc (hk:=?_);refine Xa [1,3,9] (hx:=?_);refine⟨?_,?_,?_⟩;(focus(refine Xw hc (hk:=?_);refine Xa [3,9] (hx:=?_);refine⟨?_,?_⟩;(focus(refine Xw hc (hk:=?_);refine Xa [9] (hx:=?_);(focus(refine Xw hc (hk:=?_);refine Xa [10] (hx:=?_);(focus(refine Xw hc (hk:=?_);refine Xg 11 hc (hk:=?_);refine Xz (hk:=?_);exact Xb [0,4,5,29,30,31] [29]))))));(focus(refine Xw hc (hk:=?_);refine Xa [3] (hx:=?_);(focus(refine Xw hc (hk:=?_);refine Xa [10] (hx:=?_);(focus(refine Xw hc (hk:=?_);refine Xg 11 hc (hk:=?_);refine Xz (hk:=?_);exact Xb [0,4,5,29,30,31] [29]))))))));(focus(refine Xw hc (hk:=?_);refine Xa [1,9] (hx:=?_);refine⟨?_,?_⟩;(focus(refine Xw hc (hk:=?_);refine Xa [9] (hx:=?_);(focus(refine Xw hc (hk:=?_);refine Xa [10] (hx:=?_);(focus(refine Xw hc (hk:=?_);refine Xg 11 hc (hk:=?_);refine Xz (hk:=?_);exact Xb [0,4,5,29,30,31] [29]))))));(focus(refine Xw hc (hk:=?_);refine Xa [1] (hx:=?_);(focus(refine Xw hc (hk:=?_);refine Xa [10] (hx:=?_);(focus(refine Xw hc (hk:=?_);refine Xg 11 hc (hk:=?_);refine Xz (hk:=?_);exact Xb [0,4,5,29,30,31] [29]))))))));(focus(refine Xw hc (hk:=?_);refine Xa [1,3] (hx:=?_);refine⟨?_,?_⟩;(focus(refine Xw hc (hk:=?_);refine Xa [3] (hx:=?_);(focus(refine Xw hc (hk:=?_);refine Xa [10] (hx:=?_);(focus(refine Xw hc (hk:=?_);refine Xg 11 hc (hk:=?_);refine Xz (hk:=?_);exact Xb [0,4,5,29,30,31] [29]))))));(focus(refine Xw hc (hk:=?_);refine Xa [1] (hx:=?_);(focus(refine Xw hc (hk:=?_);refine Xa [10] (hx:=?_);(focus(refine Xw hc (hk:=?_);refine Xg 11 hc (hk:=?_);refine Xz (hk:=?_);exact Xb [0,4,5,29,30,31] [29]))))))))));(focus(refine Xw hc (hk:=?_);refine Xa [1,3,5] (hx:=?_);refine⟨?_,?_,?_⟩;(focus(refine Xw hc (hk:=?_);refine Xa [3,5] (hx:=?_);refine⟨?_,?_⟩;(focus(refine Xw hc (hk:=?_);refine Xa [5] (hx:=?_);(focus(refine Xw hc (hk:=?_);refine Xa [10] (hx:=?_);(focus(refine Xw hc (hk:=?_);refine Xg 11 hc (hk:=?_);refine Xz (hk:=?_);exact Xb [0,4,5,29,30,31] [29]))))));(focus(refine Xw hc (hk:=?_);refine Xa [3] (hx:=?_);(focus(refine Xw hc (hk:=?_);refine Xa [10] (hx:=?_);(focus(refine Xw hc (hk:=?_);refine Xg 11 hc (hk:=?_);refine Xz (hk:=?_);exact Xb [0,4,5,29,30,31] [29]))))))));(focus(refine Xw hc (hk:=?_);refine Xa [1,5] (hx:=?_);refine⟨?_,?_⟩;(focus(refine Xw hc (hk:=?_);refine Xa [5] (hx:=?_);(focus(refine Xw hc (hk:=?_);refine Xa [10] (hx:=?_);(focus(refine Xw hc (hk:=?_);refine Xg 11 hc (hk:=?_);refine Xz (hk:=?_);exact Xb [0,4,5,29,30,31] [29]))))));(focus(refine Xw hc (hk:=?_);refine Xa [1] (hx:=?_);(focus(refine Xw hc (hk:=?_);refine Xa [10] (hx:=?_);(focus(refine Xw hc (hk:=?_);refine Xg 11 hc (hk:=?_);refine Xz (hk:=?_);exact Xb [0,4,5,29,30,31] [29]))))))));(focus(refine Xw hc (hk:=?_);refine Xa [1,3] (hx:=?_);refine⟨?_,?_⟩;(focus(refine Xw hc (hk:=?_);refine Xa [3] (hx:=?_);(focus(refine Xw hc (hk:=?_);refine Xa [10] (hx:=?_);(focus(refine Xw hc (hk:=?_);refine Xg 11 hc (hk:=?_);refine Xz (hk:=?_);exact Xb [0,4,5,29,30,31] [29]))))));(focus(refine Xw hc (hk:=?_);refine Xa [1] (hx:=?_);(focus(refine Xw hc (hk:=?_);refine Xa [10] (hx:=?_);(focus(refine Xw hc (hk:=?_);refine Xg 11 hc (hk:=?_);refine Xz (hk:=?_);exact Xb [0,4,5,29,30,31] [29]))))))))))));(focus(refine Xw hc (hk:=?_);refine Xa [1,3,5,7] (hx:=?_);refine⟨?_,?_,?_,?_⟩;(focus(refine Xw hc (hk:=?_);refine Xa [3,5,7] (hx:=?_);refine⟨?_,?_,?_⟩;(focus(refine Xw hc (hk:=?_);refine Xa [5,7] (hx:=?_);refine⟨?_,?_⟩;(focus(refine Xw hc (hk:=?_);refine Xa [7] (hx:=?_);(focus(refine Xw hc (hk:=?_);refine Xa [10] (hx:=?_);(focus(refine Xw hc (hk:=?_);refine Xg 11 hc (hk:=?_);refine Xz (hk:=?_);exact Xb [0,4,5,29,30,31] [29]))))));(focus(refine Xw hc (hk:=?_);refine Xa [5] (hx:=?_);(focus(refine Xw hc (hk:=?_);refine Xa [10] (hx:=?_);(focus(refine Xw hc (hk:=?_);refine Xg 11 hc (hk:=?_);refine Xz (hk:=?_);exact Xb [0,4,5,29,30,31] [29]))))))));(focus(refine Xw hc (hk:=?_);refine Xa [3,7] (hx:=?_);refine⟨?_,?_⟩;(focus(refine Xw hc (hk:=?_);refine Xa [7] (hx:=?_);(focus(refine Xw hc (hk:=?_);refine Xa [10] (hx:=?_);(focus(refine Xw hc (hk:=?_);refine Xg 11 hc (hk:=?_);refine Xz (hk:=?_);exact Xb [0,4,5,29,30,31] [29]))))));(focus(refine Xw hc (hk:=?_);refine Xa [3] (hx:=?_);(focus(refine Xw hc (hk:=?_);refine Xa [10] (hx:=?_);(focus(refine Xw hc (hk:=?_);refine Xg 11 hc (hk:=?_);refine Xz (hk:=?_);exact Xb [0,4,5,29,30,31] [29]))))))));(focus(refine Xw hc (hk:=?_);refine Xa [3,5] (hx:=?_);refine⟨?_,?_⟩;(focus(refine Xw hc (hk:=?_);refine Xa [5] (hx:=?_);(focus(refine Xw hc (hk:=?_);refine Xa [10] (hx:=?_);(focus(refine Xw hc (hk:=?_);refine Xg 11 hc (hk:=?_);refine Xz (hk:=?_);exact Xb [0,4,5,29,30,31] [29]))))));(focus(refine Xw hc (hk:=?_);refine Xa [3] (hx:=?_);(focus(refine Xw hc (hk:=?_);refine Xa [10] (hx:=?_);(focus(refine Xw hc (hk:=?_);refine Xg 11 hc (hk:=?_);refine Xz (hk:=?_);exact Xb [0,4,5,29,30,31] [29]))))))))));(focus(refine Xw hc (hk:=?_);refine Xa [1,5,7] (hx:=?_);refine⟨?_,?_,?_⟩;(focus(refine Xw hc (hk:=?_);refine Xa [5,7] (hx:=?_);refine⟨?_,?_⟩;(focus(refine Xw hc (hk:=?_);refine Xa [7] (hx:=?_);(focus(refine Xw hc (hk:=?_);refine Xa [10] (hx:=?_);(focus(refine Xw hc (hk:=?_);refine Xg 11 hc (hk:=?_);refine Xz (hk:=?_);exact Xb [0,4,5,29,30,31] [29]))))));(focus(refine Xw hc (hk:=?_);refine Xa [5] (hx:=?_);(focus(refine Xw hc (hk:=?_);refine Xa [10] (hx:=?_);(focus(refine Xw hc (hk:=?_);refine Xg 11 hc (hk:=?_);refine Xz (hk:=?_);exact Xb [0,4,5,29,30,31] [29]))))))));(focus(refine Xw hc (hk:=?_);refine Xa [1,7] (hx:=?_);refine⟨?_,?_⟩;(focus(refine Xw hc (hk:=?_);refine Xa [7] (hx:=?_);(focus(refine Xw hc (hk:=?_);refine Xa [10] (hx:=?_);(focus(refine Xw hc (hk:=?_);refine Xg 11 hc (hk:=?_);refine Xz (hk:=?_);exact Xb [0,4,5,29,30,31] [29]))))));(focus(refine Xw hc (hk:=?_);refine Xa [1] (hx:=?_);(focus(refine Xw hc (hk:=?_);refine Xa [10] (hx:=?_);(focus(refine Xw hc (hk:=?_);refine Xg 11 hc (hk:=?_);refine Xz (hk:=?_);exact Xb [0,4,5,29,30,31] [29]))))))));(focus(refine Xw hc (hk:=?_);refine Xa [1,5] (hx:=?_);refine⟨?_,?_⟩;(focus(refine Xw hc (hk:=?_);refine Xa [5] (hx:=?_);(focus(refine Xw hc (hk:=?_);refine Xa [10] (hx:=?_);(focus(refine Xw hc (hk:=?_);refine Xg 11 hc (hk:=?_);refine Xz (hk:=?_);exact Xb [0,4,5,29,30,31] [29]))))));(focus(refine Xw hc (hk:=?_);refine Xa [1] (hx:=?_);(focus(refine Xw hc (hk:=?_);refine Xa [10] (hx:=?_);(focus(refine Xw hc (hk:=?_);refine Xg 11 hc (hk:=?_);refine Xz (hk:=?_);exact Xb [0,4,5,29,30,31] [29]))))))))));(focus(refine Xw hc (hk:=?_);refine Xa [1,3,7] (hx:=?_);refine⟨?_,?_,?_⟩;(focus(refine Xw hc (hk:=?_);refine Xa [3,7] (hx:=?_);refine⟨?_,?_⟩;(focus(refine Xw hc (hk:=?_);refine Xa [7] (hx:=?_);(focus(refine Xw hc (hk:=?_);refine Xa [10] (hx:=?_);(focus(refine Xw hc (hk:=?_);refine Xg 11 hc (hk:=?_);refine Xz (hk:=?_);exact Xb [0,4,5,29,30,31] [29]))))));(focus(refine Xw hc (hk:=?_);refine Xa [3] (hx:=?_);(focus(refine Xw hc (hk:=?_);refine Xa [10] (hx:=?_);(focus(refine Xw hc (hk:=?_);refine Xg 11 hc (hk:=?_);refine Xz (hk:=?_);exact Xb [0,4,5,29,30,31] [29]))))))));(focus(refine Xw hc (hk:=?_);refine Xa [1,7] (hx:=?_);refine⟨?_,?_⟩;(focus(refine Xw hc (hk:=?_);refine Xa [7] (hx:=?_);(focus(refine Xw hc (hk:=?_);refine Xa [10] (hx:=?_);(focus(refine Xw hc (hk:=?_);refine Xg 11 hc (hk:=?_);refine Xz (hk:=?_);exact Xb [0,4,5,29,30,31] [29]))))));(focus(refine Xw hc (hk:=?_);refine Xa [1] (hx:=?_);(focus(refine Xw hc (hk:=?_);refine Xa [10] (hx:=?_);(focus(refine Xw hc (hk:=?_);refine Xg 11 hc (hk:=?_);refine Xz (hk:=?_);exact Xb [0,4,5,29,30,31] [29]))))))));(focus(refine Xw hc (hk:=?_);refine Xa [1,3] (hx:=?_);refine⟨?_,?_⟩;(focus(refine Xw hc (hk:=?_);refine Xa [3] (hx:=?_);(focus(refine Xw hc (hk:=?_);refine Xa [10] (hx:=?_);(focus(refine Xw hc (hk:=?_);refine Xg 11 hc (hk:=?_);refine Xz (hk:=?_);exact Xb [0,4,5,29,30,31] [29]))))));(focus(refine Xw hc (hk:=?_);refine Xa [1] (hx:=?_);(focus(refine Xw hc (hk:=?_);refine Xa [10] (hx:=?_);(focus(refine Xw hc (hk:=?_);refine Xg 11 hc (hk:=?_);refine Xz (hk:=?_);exact Xb [0,4,5,29,30,31] [29]))))))))));(focus(refine Xw hc (hk:=?_);refine Xa [1,3,5] (hx:=?_);refine⟨?_,?_,?_⟩;(focus(refine Xw hc (hk:=?_);refine Xa [3,5] (hx:=?_);refine⟨?_,?_⟩;(focus(refine Xw hc (hk:=?_);refine Xa [5] (hx:=?_);(focus(refine Xw hc (hk:=?_);refine Xa [10] (hx:=?_);(focus(refine Xw hc (hk:=?_);refine Xg 11 hc (hk:=?_);refine Xz (hk:=?_);exact Xb [0,4,5,29,30,31] [29]))))));(focus(refine Xw hc (hk:=?_);refine Xa [3] (hx:=?_);(focus(refine Xw hc (hk:=?_);refine Xa [10] (hx:=?_);(focus(refine Xw hc (hk:=?_);refine Xg 11 hc (hk:=?_);refine Xz (hk:=?_);exact Xb [0,4,5,29,30,31] [29]))))))));(focus(refine Xw hc (hk:=?_);refine Xa [1,5] (hx:=?_);refine⟨?_,?_⟩;(focus(refine Xw hc (hk:=?_);refine Xa [5] (hx:=?_);(focus(refine Xw hc (hk:=?_);refine Xa [10] (hx:=?_);(focus(refine Xw hc (hk:=?_);refine Xg 11 hc (hk:=?_);refine Xz (hk:=?_);exact Xb [0,4,5,29,30,31] [29]))))));(focus(refine Xw hc (hk:=?_);refine Xa [1] (hx:=?_);(focus(refine Xw hc (hk:=?_);refine Xa [10] (hx:=?_);(focus(refine Xw hc (hk:=?_);refine Xg 11 hc (hk:=?_);refine Xz (hk:=?_);exact Xb [0,4,5,29,30,31] [29]))))))));(focus(refine Xw hc (hk:=?_);refine Xa [1,3] (hx:=?_);refine⟨?_,?_⟩;(focus(refine Xw hc (hk:=?_);refine Xa [3] (hx:=?_);(focus(refine Xw hc (hk:=?_);refine Xa [10] (hx:=?_);(focus(refine Xw hc (hk:=?_);refine Xg 11 hc (hk:=?_);refine Xz (hk:=?_);exact Xb [0,4,5,29,30,31] [29]))))));(focus(refine Xw hc (hk:=?_);refine Xa [1] (hx:=?_);(focus(refine Xw hc (hk:=?_);refine Xa [10] (hx:=?_);(focus(refine Xw hc (hk:=?_);refine Xg 11 hc (hk:=?_);refine Xz (hk:=?_);exact Xb [0,4,5,29,30,31] [29])))))))))))))))
   exact hh.get) ?_
  repeat' (first|refine Va ?_|(with_reducible refine aB (ht:=fun hb=>?_) (hf:=fun hb=>?_)<;>(try simp at hb))|refine Vn ?_|refine Vl (hG:=?_)|fail)
  obtain⟨P,hP,hPl,hPm⟩: ∃P:List Bs,[[str (List.drop 5 (List.take 7 s))],[str (List.drop 12 (List.take 16 s))],[str (List.drop 17 (List.take 19 s))],[str (List.drop 20 (List.take 22 s))],[str (List.drop 23 (List.take 25 s))]]=P.map (fun y=>[str y])∧P.length=5∧ ∀y∈P,1≤y.length∧y.length≤4:=⟨[_,_,_,_,_],rfl,rfl,by simp[h29]⟩
  rw[hP]
  refine dP [(5,none,40000,3,[int 0])] [0,4,5,29,30,31] [29,40000] (fun x:Nat×List Int=>[(5,.os 40000 x.2.length),(31,.d (int x.1))]) (fun x=>[(40000,.own 3 1 (true,[int 0]) (x.2.map fun y=>[int y]))]) (fun x=>x.1≤5∧x.2.length=x.1∧ ∀y∈x.2,0≤y∧y<10000) (fun x=>5-x.1) (0,[]) qE ?_
  rintro L hL ⟨j,K⟩ ⟨hj,hK,hy⟩ ih
  simp only at hj hK hy ih⊢
  by_cases hjn:j<5
  ·obtain⟨z1,z2⟩:=hPm (P[j]?.getD []) (by rw[List.getElem?_eq_getElem qD];simp)
   repeat' (first|refine Va ?_|(with_reducible refine aB (ht:=fun hb=>?_) (hf:=fun hb=>?_)<;>(try simp at hb))|refine Vb ?_|refine Vl (hG:=?_)|refine Vc (hf:=by exact jI _ _ qD qE qK) (h:=?_)|fail)
   all_goals(try(exfalso;omega))
   ·exact⟨0,false,rfl,qE⟩
   ·obtain⟨_,⟨v,rfl,hv⟩,ha⟩:=Aw _ z1 4 z2 qD ((fY _).1 qN)
    have hv':v<10000:=hv
    repeat' (first|refine Va ?_|(with_reducible refine aB (ht:=fun hb=>?_) (hf:=fun hb=>?_)<;>(try simp at hb))|refine Vb ?_|refine Vl (hG:=?_)|refine Vc (hf:=by exact ha) (h:=?_)|fail)
    all_goals(try(exfalso;omega))
    refine Vk [0,4,5,29,30,31] [29,40000] hL (ih (j+1,K++[(v:Int)]) ⟨qI,qH,fun y hm=>?_⟩ qI)
    rcases List.mem_append.1 hm with hm|hm
    ·exact hy y hm
    ·simp at hm
     omega
  ·have hyi: ∀i,i<5→0≤K[i]?.getD 0∧K[i]?.getD 0<10000:=fun i hi=>by
    rw[List.getElem?_eq_getElem qD]
    exact hy _ qE
   have y0:=hyi 0 qK
   have y1:=hyi 1 qK
   have y2:=hyi 2 qK
   have y3:=hyi 3 qK
   have y4:=hyi 4 qK
   repeat' (first|refine Va ?_|(with_reducible refine aB (ht:=fun hb=>?_) (hf:=fun hb=>?_)<;>(try simp at hb))|refine Vb ?_|refine Vl (hG:=?_)|fail)
   all_goals(try(exfalso;omega))
   ·exact⟨0,false,rfl,qE⟩
   ·repeat' (first|refine Va ?_|(with_reducible refine aB (ht:=fun hb=>?_) (hf:=fun hb=>?_)<;>(try simp at hb))|refine Vb ?_|refine Vl (hG:=?_)|(refine Vq (hf:=Ij (K[1]?.getD 0) (k+1) qD qD) (hfl:=?_) (hk:=?_)<;>rintro _ ⟨dn,rfl,d1,d2,d3⟩;(·rfl))|fail)
    generalize (dn+K[0]?.getD 0-1)*86400+K[2]?.getD 0*3600+K[3]?.getD 0*60+K[4]?.getD 0=T
    have hI:=dJ T
    by_cases hn:0≤T∧T≤253402300799
    ·rw[decide_eq_true hn]at hI
     obtain⟨t,rfl⟩: ∃t:Nat,T=t:=⟨T.toNat,qD⟩
     repeat' (first|refine Va ?_|(with_reducible refine aB (ht:=fun hb=>?_) (hf:=fun hb=>?_)<;>(try simp at hb))|refine Vb ?_|refine Vl (hG:=?_)|refine Vc (hf:=Qu) (h:=?_)|(refine Ve (hf:=Al t qD) (hk:=?_);rintro _ ⟨l,rfl,hl⟩)|fail)
     all_goals first|exact⟨0,false,rfl,qE⟩|exact⟨t,true,rfl,fun _=>hn⟩
    ·rw[decide_eq_false hn]at hI
     repeat' (first|refine Va ?_|(with_reducible refine aB (ht:=fun hb=>?_) (hf:=fun hb=>?_)<;>(try simp at hb))|refine Vb ?_|refine Vl (hG:=?_)|refine Vc (hf:=Qu) (h:=?_)|refine Vx (h:=?_)|fail)
     all_goals first|exact⟨0,false,rfl,qE⟩
 ·repeat' (first|refine Va ?_|(with_reducible refine aB (ht:=fun hb=>?_) (hf:=fun hb=>?_)<;>(try simp at hb))|refine Vn ?_|refine Vl (hG:=?_)|fail)
  all_goals(try(exfalso;omega))
  exact⟨0,false,rfl,qE⟩
set_option maxHeartbeats 1000000
theorem mS (s:Bs) (hs:s.length≤9223372036854775807):aV Tryz.prog 81 [str s] (IsB fun b=>b=true→1≤s.length∧s.length≤40):=by
 refine bI Tryz.func81 rfl qC Tryz.ntmps81 _ rfl qE ?_
 by_cases h0:1≤s.length
 ·by_cases h1:s.length≤40
  ·repeat' (first|refine Va ?_|(with_reducible refine aB (ht:=fun hb=>?_) (hf:=fun hb=>?_)<;>(try simp at hb))|refine Vb ?_|refine Vl (hG:=?_)|refine Vc (hf:=QZ) (h:=?_)|fail)
   exact⟨_,rfl,fun _=>⟨h0,h1⟩⟩
  ·repeat' (first|refine Va ?_|(with_reducible refine aB (ht:=fun hb=>?_) (hf:=fun hb=>?_)<;>(try simp at hb))|refine Vb ?_|refine Vl (hG:=?_)|refine Vc (hf:=QZ) (h:=?_)|fail)
   refine⟨_,rfl,fun h=>?_⟩
   simp only[Bool.and_eq_true,decide_eq_true_eq]at h
   omega
 ·repeat' (first|refine Va ?_|(with_reducible refine aB (ht:=fun hb=>?_) (hf:=fun hb=>?_)<;>(try simp at hb))|refine Vb ?_|refine Vl (hG:=?_)|refine Vc (hf:=QZ) (h:=?_)|fail)
  refine⟨_,rfl,fun h=>?_⟩
  simp[show s=[]from List.eq_nil_of_length_eq_zero qD]at h
theorem y9 (l:Bs) (hl:l.length≤9223372036854775807):aV Tryz.prog 86 [str l] (IsB fun b=>b=true→1≤l.length∧l.length≤2000∧ ∀c∈l,33≤c.toNat∧c.toNat≤126):=by
 refine bI Tryz.func86 rfl qC Tryz.ntmps86 _ rfl qE ?_
 repeat' (first|refine Va ?_|(with_reducible refine aB (ht:=fun hb=>?_) (hf:=fun hb=>?_)<;>(try simp at hb))|refine Vb ?_|refine Vl (hG:=?_)|fail)
 refine dP [] [0,5,6] [] (fun j:Nat=>[(6,.d (int j))]) (fun _=>[]) (fun j=>j≤l.length∧ ∀i,i<j→33≤(l[i]?.getD 0).toNat∧(l[i]?.getD 0).toNat≤126) (l.length- ·) 0 qE ?_
 rintro L hL j ⟨hj,hi⟩ ih
 by_cases hjn:j<l.length
 ·repeat' (first|refine Va ?_|(with_reducible refine aB (ht:=fun hb=>?_) (hf:=fun hb=>?_)<;>(try simp at hb))|refine Vb ?_|refine Vl (hG:=?_)|fail)
  all_goals try(exfalso;omega)
  ·exact⟨_,rfl,qE⟩
  ·refine Vk [0,5,6] [] hL (ih (j+1) ⟨qD,fun i hij=>?_⟩ qD)
   rcases Nat.lt_or_ge i j with h|h
   ·exact hi i h
   ·obtain rfl:i=j:=by omega
    omega
 ·repeat' (first|refine Va ?_|(with_reducible refine aB (ht:=fun hb=>?_) (hf:=fun hb=>?_)<;>(try simp at hb))|refine Vb ?_|refine Vl (hG:=?_)|fail)
  all_goals try(exfalso;omega)
  refine⟨_,rfl,fun h=>?_⟩
  simp at h
  refine⟨qD,qD,fun c hc=>?_⟩
  obtain⟨i,hi',rfl⟩:=List.mem_iff_getElem.1 hc
  have:=hi i qD
  rwa [List.getElem?_eq_getElem hi']at this
structure Rc where
 kind:Int
 id:Bs
 of:Bs
 time:Int
 key:Bs
 nh:Nat
 ha:Nat→Bs
 hb:Nat→Bs
 nb:Nat
 bl:Nat→UInt8
abbrev Rc.row (r:Rc):List D:=[int r.kind,str r.id,str r.of,int r.time,str r.key,hdF r.nh r.ha r.hb,byF r.nb r.bl]
abbrev Rc.d (r:Rc):D:= .agg r.row
structure Rc.Fit (r:Rc):Prop where
 id:r.id.length≤1000000
 of:r.of.length≤1000000
 key:r.key.length≤1000000
 hd:oI r.nh r.ha r.hb
 nb:r.nb≤1000000000000
structure Rc.Ok (r:Rc):Prop where
 kind:1≤r.kind∧r.kind≤5
 id:r.id.length≤40
 of:r.of.length≤40
 time:0≤r.time∧r.time≤253402300799
 key:r.key.length≤2000
 hd:Vy r.nh r.ha r.hb
 nb:r.nb≤200000
theorem SS:aJ Tryz.prog 227 [] (cE [[105,100],[111,102],[107,105,110,100],[100,97,116,101],[107,101,121],[108,101,110,103,116,104],[100,105,103,101,115,116]]):=by
 refine aW Tryz.func227 rfl qC Tryz.ntmps227 _ rfl qE fun C hc=>?_
 repeat' (first|refine Wd ?_|(refine Wc ?_ ?_<;>intro hb<;>try simp at hb)|fail)
 (refine Zl hc (hr:=?_))
 simp
theorem l8 (r:Rc) (h:r.Fit):aV Tryz.prog 153 [r.d] (IsF fun f=>f=0→r.Ok):=by
 obtain⟨kind,id,of,time,key,nh,ha,hb',nb,bl⟩:=r
 obtain⟨h1,h2,h3,h4,h5⟩:=h
 simp only[Rc.d,Rc.row]at*
 have hO:=SS
 refine bI Tryz.func153 rfl qC Tryz.ntmps153 _ rfl qE ?_
 repeat' (first|refine Va ?_|(with_reducible refine aB (ht:=fun hb=>?_) (hf:=fun hb=>?_)<;>(try simp at hb))|refine Vn ?_|refine Vl (hG:=?_)|(refine Ve (hf:=mS _ qD) (hk:=?_);rintro _ ⟨n,rfl,hn⟩)|refine Vc (hf:=qaS) (h:=?_)|(refine Ve (hf:=y9 _ qD) (hk:=?_);rintro _ ⟨k,rfl,hk⟩)|(refine Ve (hf:=kA _ _ _ h4) (hk:=?_);rintro _ ⟨f,rfl,hf⟩)|fail)
 all_goals try contradiction
 all_goals try(refine⟨_,rfl,?_⟩;simp;done)
 all_goals try(refine⟨_,rfl,fun e=>absurd e ?_⟩;assumption)
 all_goals try(exfalso;simp_all;done)
 refine vU [1,80,81,82] [1] 82 nh ?_
 intro L hL j hj ih
 by_cases hjn:j<nh
 ·have hs:=bP (ha j) (by have:=h4.2 j hjn;omega)
  obtain⟨t,hq⟩: ∃t:Bool,aJ Tryz.prog 37 [cE [[105,100],[111,102],[107,105,110,100],[100,97,116,101],[107,101,121],[108,101,110,103,116,104],[100,105,103,101,115,116]],str (small (ha j))] (tru t):=⟨_,iN _ _ qE⟩
  repeat' (first|refine Va ?_|(with_reducible refine aB (ht:=fun hb=>?_) (hf:=fun hb=>?_)<;>(try simp at hb))|refine Vn ?_|refine Vl (hG:=?_)|fail)
  refine aQ (by
   intro r C hc hh
   refine bA (aG [1,5,80,81,82] [1,5] qA qA) ?_
   (apply Pd 5 hc;(focus(refine Pr 1 hc (hk:=?_);refine Pr 2 hc (hk:=?_);refine Pc 0 hc (hf:=qaC) (hk:=?_);refine Pc 3 hc (hf:=qaC) (hk:=?_);refine Pc 4 hc (hf:=qaC) (hk:=?_);refine Pz (hk:=?_);exact aG [1,80,81,82,90] [1] Qg Qg)))
   exact hh.get) ?_
  repeat' (first|refine Va ?_|(with_reducible refine aB (ht:=fun hb=>?_) (hf:=fun hb=>?_)<;>(try simp at hb))|refine Vn ?_|refine Vl (hG:=?_)|fail)
  all_goals try(exfalso;omega)
  ·exact⟨_,rfl,qE⟩
  ·exact Vk [1,80,81,82] [1] hL (ih (j+1) qD qD)
 ·repeat' (first|refine Va ?_|(with_reducible refine aB (ht:=fun hb=>?_) (hf:=fun hb=>?_)<;>(try simp at hb))|refine Vn ?_|refine Vl (hG:=?_)|fail)
  all_goals try(exfalso;omega)
  all_goals try(refine⟨_,rfl,?_⟩;simp;done)
  refine⟨_,rfl,fun _=>?_⟩
  have h6:=hf qN
  have h7:=hk qN
  exact⟨qN,by grind,by grind,qN,h7.2.1,h6,by show nb≤200000;omega⟩
abbrev hdL (K:List (Bs×Bs)):D:= .sl K.length fun i=>[str (K[i]?.getD ([],[])).1,str (K[i]?.getD ([],[])).2]
def iO (K:List (Bs×Bs)):Prop:=K.length≤1000000∧ ∀x∈K,x.1.length≤1000000∧x.2.length≤1000000
theorem iO.hd {K:List (Bs×Bs)} (h:iO K):oI K.length (fun i=>(K[i]?.getD ([],[])).1) (fun i=>(K[i]?.getD ([],[])).2):=⟨h.1,fun i hi=>by
 simp only[List.getElem?_eq_getElem hi]
 exact h.2 _ (List.getElem_mem hi)⟩
def iU (x:Bs×Bs):List D:=[str x.1,str x.2]
theorem Gy (n:Nat) (g:Nat→UInt8) (k:Nat) (hk:k≤n) (hn:n≤1000000):aV Tryz.prog 163 [byF n g,int k] (fun d=> ∃(K:List (Bs×Bs)) (m:Nat) (ok:Bool),d= .tup [hdL K,int m,tru ok]∧iO K∧m≤n):=by
 refine aV.mono (G:=fun d=>(∃m:Nat,d= .tup [.lit (.slice none 0 0),int m,tru false]∧m≤n)∨ ∃(K:List (Bs×Bs)) (m:Nat) (ok:Bool),d= .tup [hdL K,int m,tru ok]∧iO K∧m≤n) (bI Tryz.func163 rfl qC Tryz.ntmps163 _ rfl qE ?_) ?_
 rotate_left
 ·rintro _ (⟨m,rfl,hm⟩|h)
  ·exact⟨_,eZ (bY _),[],m,false,rfl,⟨qE,qE⟩,hm⟩
  ·exact⟨_,cJ.refl _,h⟩
 repeat' (first|refine Va ?_|(with_reducible refine aB (ht:=fun hb=>?_) (hf:=fun hb=>?_)<;>(try simp at hb))|refine Vb ?_|refine Vl (hG:=?_)|fail)
 refine dP [(7,none,40000,256,[str [],str []])] [0,1,7] [40000] (fun x:Nat×List (Bs×Bs)=>[(1,.d (int x.1)),(7,.os 40000 x.2.length)]) (fun x=>[(40000,.own 256 2 (true,[str [],str []]) (x.2.map iU))]) (fun x=>x.1≤n∧x.2.length≤x.1∧ ∀y∈x.2,y.1.length≤1000000∧y.2.length≤1000000) (fun x=>n-x.1) (k,[]) qH ?_
 rintro L hL ⟨j,K⟩ ⟨hj,hK,hy⟩ ih
 simp only at hj hK hy ih⊢
 by_cases hjn:j<n
 ·repeat' (first|refine Va ?_|(with_reducible refine aB (ht:=fun hb=>?_) (hf:=fun hb=>?_)<;>(try simp at hb))|refine Vb ?_|refine Vl (hG:=?_)|(refine Ve (hf:=Ax n g j hj hn) (hk:=?_);rintro _ ⟨s,m,t,rfl,hs,hm1,hm2,hm3⟩)|(refine Ve (hf:=Gx _ hs) (hk:=?_);rintro _ ⟨x,y,t2,rfl,hx,hy2⟩)|fail)
  all_goals try(exfalso;omega)
  ·exact .inl ⟨_,rfl,hj⟩
  ·exact .inr ⟨K,m,true,by simp;funext i;cases K[i]?<;>rfl,⟨qD,hy⟩,hm2⟩
  ·exact .inl ⟨_,rfl,hj⟩
  ·refine Vk [0,1,7] [40000] hL (ih (m,K++[(x,y)]) ⟨hm2,by simp;have:=hm3 qN;omega,fun z hz=>?_⟩ (by have:=hm3 qN;simp only;omega)) (he:=by simp[iU])
   rcases List.mem_append.1 hz with hz|hz
   ·exact hy z hz
   ·simp at hz
    subst hz
    exact⟨hx,hy2⟩
 ·repeat' (first|refine Va ?_|(with_reducible refine aB (ht:=fun hb=>?_) (hf:=fun hb=>?_)<;>(try simp at hb))|refine Vb ?_|refine Vl (hG:=?_)|fail)
  all_goals try(exfalso;omega)
  exact .inl ⟨n,rfl,Nat.le_refl _⟩
abbrev v7 (st:Int) (rs:Bs) (K:List (Bs×Bs)) (m:Nat) (g:Nat→UInt8):D:= .agg [int st,str rs,hdL K,byF m g]
theorem K4 (n:Nat) (g:Nat→UInt8) (hn:n≤1000000):aV Tryz.prog 95 [byF n g] (fun d=> ∃(st:Int) (rs:Bs) (K:List (Bs×Bs)) (m:Nat) (ok:Bool),d= .tup [v7 st rs K 0 fun _=>0,int m,tru ok]∧rs.length≤1000000∧iO K∧m≤n):=by
 refine aV.mono (G:=fun d=>d= .tup [.agg [int 0,str [],.lit (.slice none 0 0),.lit (.slice none 0 0)],int 0,tru false]∨ ∃(st:Int) (rs:Bs) (K:List (Bs×Bs)) (m:Nat) (ok:Bool),d= .tup [.agg [int st,str rs,hdL K,.lit (.slice none 0 0)],int m,tru ok]∧rs.length≤1000000∧iO K∧m≤n) (bI Tryz.func95 rfl qC Tryz.ntmps95 _ rfl qE ?_) ?_
 rotate_left
 ·rintro _ (rfl|⟨st,rs,K,m,ok,rfl,h⟩)
  ·refine⟨.tup [v7 0 [] [] 0 fun _=>0,int 0,tru false],eZ (mK rfl fun k x hk=>?_),0,[],[],0,false,rfl,qE,⟨qE,qE⟩,qD⟩
   match k,hk with
   |0,hk=>cases hk;exact⟨_,rfl,cJ.refl _⟩
   |1,hk=>cases hk;exact⟨_,rfl,cJ.refl _⟩
   |2,hk=>cases hk;exact⟨_,rfl,bY _⟩
   |3,hk=>cases hk;exact⟨_,rfl,bY _⟩
  ·refine⟨.tup [v7 st rs K 0 fun _=>0,int m,tru ok],eZ (mK rfl fun k x hk=>?_),st,rs,K,m,ok,rfl,h⟩
   match k,hk with
   |0,hk=>cases hk;exact⟨_,rfl,cJ.refl _⟩
   |1,hk=>cases hk;exact⟨_,rfl,cJ.refl _⟩
   |2,hk=>cases hk;exact⟨_,rfl,cJ.refl _⟩
   |3,hk=>cases hk;exact⟨_,rfl,bY _⟩
 repeat' (first|refine Va ?_|(with_reducible refine aB (ht:=fun hb=>?_) (hf:=fun hb=>?_)<;>(try simp at hb))|refine Vb ?_|refine Vl (hG:=?_)|(refine Ve (hf:=Ax n g 0 qD hn) (hk:=?_);rintro _ ⟨s,m,t,rfl,hs,hm1,hm2,hm3⟩)|refine Vc (hf:=by exact fZ _ _) (h:=?_)|fail)
 have hcp:(kB s [87,69,66,47,49,32]).length≤1000000:=by unfold kB;split<;>(try simp)<;>omega
 repeat' (first|refine Va ?_|(with_reducible refine aB (ht:=fun hb=>?_) (hf:=fun hb=>?_)<;>(try simp at hb))|refine Vb ?_|refine Vl (hG:=?_)|(refine Ve (hf:=Sb _ [32] hcp) (hk:=?_);rintro _ ⟨x,y,t2,rfl,hx,hy⟩)|(refine Ve (hf:=tY _ qD 9 qD) (hk:=?_);rintro _ ⟨_|_,rfl,ht⟩)|(refine Ve (hf:=Aw _ (ht rfl).1 9 (ht rfl).2.1 qD ((fY _).1 (ht rfl).2.2)) (hk:=?_);rintro _ ⟨v,rfl,hv⟩)|(refine Ve (hf:=Gy n g m hm2 hn) (hk:=?_);rintro _ ⟨K,m2,t3,rfl,hK,hm4⟩)|fail)
 all_goals try(exfalso;simp_all;done)
 ·exact .inl rfl
 ·exact .inl rfl
 ·exact .inr ⟨_,_,_,_,_,rfl,qD,hK,hm4⟩
theorem Ay (st:Int) (rs:Bs) (K:List (Bs×Bs)) (nb:Nat) (gb:Nat→UInt8) (h1:rs.length≤1000000) (h2:iO K):aV Tryz.prog 97 [v7 st rs K nb gb] (IsF fun _=>True):=by
 refine bI Tryz.func97 rfl qC Tryz.ntmps97 _ rfl qE ?_
 repeat' (first|refine Va ?_|(with_reducible refine aB (ht:=fun hb=>?_) (hf:=fun hb=>?_)<;>(try simp at hb))|refine Vb ?_|refine Vl (hG:=?_)|(refine Ve (hf:=Ck _ qD) (hk:=?_);rintro _ ⟨v,rfl,hv⟩)|(refine Ve (hf:=kA _ _ _ h2.hd) (hk:=?_);rintro _ ⟨f,rfl,hf⟩)|fail)
 all_goals exact⟨_,rfl,trivial⟩
theorem K6 (st:Int) (rs:Bs) (K:List (Bs×Bs)) (nb:Nat) (gb:Nat→UInt8) (h1:rs.length≤1000000) (h2:iO K):aV Tryz.prog 98 [v7 st rs K nb gb] (IsF fun f=>0≤f∧f≤4):=by
 refine bI Tryz.func98 rfl qC Tryz.ntmps98 _ rfl qE ?_
 obtain⟨_,⟨P,rfl,hP1,hP2⟩,h3⟩:=pD _ _ _ h2.hd [99,111,100,105,110,103]
 obtain⟨_,⟨Q,rfl,hQ1,hQ2⟩,h4⟩:=pD _ _ _ h2.hd [108,101,110,103,116,104]
 repeat' (first|refine Va ?_|(with_reducible refine aB (ht:=fun hb=>?_) (hf:=fun hb=>?_)<;>(try simp at hb))|refine Vn ?_|refine Vl (hG:=?_)|fail)
 refine aQ (by
  intro r C hc hh
  refine bA (aG [1] [1] qA qA) ?_
  (apply Pd 8 hc;(focus(refine Pr 0 hc (hk:=?_);refine Pr 1 hc (hk:=?_);refine Pr 3 hc (hk:=?_);refine Pr 4 hc (hk:=?_);refine Pc 2 hc (hf:=by first|exact h3|exact h4) (hk:=?_);refine Pc 5 hc (hf:=by first|exact h3|exact h4) (hk:=?_);refine Pr 6 hc (hk:=?_);refine Pr 7 hc (hk:=?_);refine Pz (hk:=?_);exact aG [1,3,4] [1] Qg Qg)))
  exact hh.get) ?_
 rcases P with _|⟨p,_|⟨p',P⟩⟩
 all_goals repeat' (first|refine Va ?_|(with_reducible refine aB (ht:=fun hb=>?_) (hf:=fun hb=>?_)<;>(try simp at hb))|refine Vb ?_|refine Vl (hG:=?_)|(refine Ve (hf:=Gw _ _ _ h2.hd) (hk:=?_);rintro _ ⟨n,t,rfl,hn⟩)|fail)
 all_goals exact⟨_,rfl,qK,qK⟩
set_option maxHeartbeats 2000000
structure Rd where
 pos:Nat
 kind:Int
 id:Bs
 of:Bs
 time:Int
 key:Bs
 K:List (Bs×Bs)
 len:Int
 dig:Bs
abbrev rdB (n:Nat) (g:Nat→UInt8) (b:Nat) (x:Rd):O:= .box 385 [.d (byF n g),.d (int x.pos),.d (int x.kind),.d (str x.id),.d (str x.of),.d (int x.time),.d (str x.key),.os b x.K.length,.d (.lit (.slice none 0 0)),.d (int x.len),.d (str x.dig)]
abbrev rdH (x:Rd):O:= .own 256 2 (true,[str [],str []]) (x.K.map iU)
abbrev rdO (n:Nat) (g:Nat→UInt8) (x:Rd):List (Nat×O):=[(100000,rdB n g 50001 x),(50001,rdH x)]
theorem Sc (n:Nat) (g:Nat→UInt8) (x:Rd) (w:Bs) (hn:n≤1000000) (hx:x.pos≤n) (hw:w.length≤100):vS Tryz.prog 339 [.bp 100000 0,.d (str w)] (rdO n g x) (fun r=> ∃b:Bool,r=(.d (tru b),rdO n g x)):=by
 refine vT Tryz.func339 rfl qC Tryz.ntmps339 _ rfl qE ?_
 repeat' (first|refine Va ?_|(with_reducible refine aB (ht:=fun hb=>?_) (hf:=fun hb=>?_)<;>(try simp at hb))|refine Vb ?_|refine Vl (hG:=?_)|refine Vd (hf:=qR) (h:=?_)|fail)
 refine Vr [100000,50001] (hG:=?_)
 exact⟨_,rfl⟩
theorem JO (n:Nat) (g:Nat→UInt8) (x:Rd) (w:Bs) (hn:n≤1000000) (hx:x.pos≤n):vS Tryz.prog 337 [.bp 100000 0,.d (str w)] (rdO n g x) (fun r=> ∃(b:Bool) (m:Nat),r=(.d (tru b),rdO n g {x with pos:=m})∧x.pos≤m∧m≤n∧(b=true→x.pos<m)):=by
 refine vT Tryz.func337 rfl qC Tryz.ntmps337 _ rfl qE ?_
 repeat' (first|refine Va ?_|(with_reducible refine aB (ht:=fun hb=>?_) (hf:=fun hb=>?_)<;>(try simp at hb))|refine Vb ?_|refine Vl (hG:=?_)|(refine Vq (hf:=Ax n g x.pos hx hn) (hfl:=?_) (hk:=?_)<;>rintro _ ⟨s,m,t,rfl,hs,h1,h2,h3⟩;(·rfl))|fail)
 ·refine Vr [100000,50001] (hG:=?_)
  exact⟨false,x.pos,rfl,qD,qD,qE⟩
 ·refine Vr [100000,50001] (hG:=?_)
  exact⟨true,m,rfl,qD,qD,fun _=>h3 hb.1⟩
theorem PG (n:Nat) (g:Nat→UInt8) (x:Rd) (w:Bs) (hn:n≤1000000) (hx:x.pos≤n) (hw:w.length≤100) (fn:FuncId) (bt:TypeId) (k:Nat) (Q:Bs→Bool→Rd→Prop)
 (hf: ∀s:Bs,s.length≤1000000→vS Tryz.prog fn [.d (str s),.bp 100002 0] (rdO n g x++[(100002,.box bt [.bp 100000 k])]) (fun r=> ∃(b:Bool) (y:Rd),r=(.d (tru b),rdO n g y++[(100002,.box bt [.bp 100000 k])])∧y.pos=x.pos∧Q s b y)):
 vS Tryz.prog 338 [.bp 100000 0,.d (str w),.eR (.func fn) [.bp 100002 0]] (rdO n g x++[(100002,.box bt [.bp 100000 k])]) (fun r=> ∃(b:Bool) (y:Rd),r=(.d (tru b),rdO n g y++[(100002,.box bt [.bp 100000 k])])∧(b=true→x.pos<y.pos∧y.pos≤n∧ ∃s z,s.length≤1000000∧y={z with pos:=y.pos}∧Q s true z)∧(b=false→y.pos=x.pos)):=by
 refine vT Tryz.func338 rfl qC Tryz.ntmps338 _ rfl qE ?_
 repeat' (first|refine Va ?_|(with_reducible refine aB (ht:=fun hb=>?_) (hf:=fun hb=>?_)<;>(try simp at hb))|refine Vb ?_|refine Vl (hG:=?_)|(refine Vq (hf:=Ax n g x.pos hx hn) (hfl:=?_) (hk:=?_)<;>rintro _ ⟨s,m,t,rfl,hs,h1,h2,h3⟩;(·rfl))|fail)
 obtain⟨u,b,hu,hc⟩: ∃(u:Bs) (b:Bool),u.length≤1000000∧aJ Tryz.prog 75 [str s,str (w++[58,32])] (.tup [str u,tru b]):=⟨_,_,by unfold kB;split<;>(try simp)<;>omega,fZ _ _⟩
 have hF:=hf u hu
 cases t<;>cases b
 rotate_left 3
 ·repeat' (first|refine Va ?_|(with_reducible refine aB (ht:=fun hb=>?_) (hf:=fun hb=>?_)<;>(try simp at hb))|refine Vb ?_|refine Vl (hG:=?_)|refine Vc (hf:=by exact hc) (h:=?_)|(refine Vm ([(100000,100000),(50001,50001),(100002,100002)]) (hf:=hF) (hk:=?_);rintro _ _ ⟨b,y,⟨⟩,hy,hq⟩;refine⟨_,_,qE,qA,qA,?_⟩)|fail)
  ·subst hb
   refine Vr [100000,50001,100002] (hG:=?_)
   exact⟨false,y,rfl,qE,fun _=>hy⟩
  ·subst hb
   refine Vr [100000,50001,100002] (hG:=?_)
   exact⟨true,{y with pos:=m},rfl,fun _=>⟨h3 rfl,h2,u,y,hu,rfl,hq⟩,qE⟩
 all_goals
  repeat' (first|refine Va ?_|(with_reducible refine aB (ht:=fun hb=>?_) (hf:=fun hb=>?_)<;>(try simp at hb))|refine Vb ?_|refine Vl (hG:=?_)|refine Vc (hf:=by exact hc) (h:=?_)|refine Vx (h:=?_)|fail)
  all_goals
   refine Vr [100000,50001,100002] (hG:=?_)
   exact⟨false,x,rfl,qE,fun _=>rfl⟩
@[simp] theorem Ww (n:Int):inR .u64 n↔0≤n∧n≤18446744073709551615:=by simp[inR,IntKind.min,IntKind.max,IntKind.signed,IntKind.bits]
theorem PH (l:List UInt8) (hl:l.length≤1000000):aV Tryz.prog 304 [.sl l.length fun i=>aZ (l[i]?.getD 0)] (fun d=> ∃n:Int,d= .lit (.int .u64 n)):=by
 refine bI Tryz.func304 rfl qC Tryz.ntmps304 _ rfl qE ?_
 repeat' (first|refine Va ?_|(refine aB (ht:=fun hb=>?_) (hf:=fun hb=>?_)<;>(try simp at hb))|refine Vb ?_|refine Vl (hG:=?_)|fail)
 refine kV (fun x:Int×Nat=>⟨[(0,.d (.sl l.length fun i=>aZ (l[i]?.getD 0))),(3,.d (.lit (.int .u64 x.1))),(6,.d (.lit (.int .i64 l.length))),(7,.d (.lit (.int .i64 (x.2:Int))))],[]⟩) (fun x=>x.2≤l.length) (fun x=>l.length-x.2) (_,0) (Nat.zero_le _) (fun C hc=>aC [0,3,6,7] [] qA qA rfl) ?_
 rintro L hL ⟨n,i⟩ hi ih
 simp only at hi ih⊢
 have hu:(l[i]?.getD 0).toNat<256:=UInt8.toNat_lt _
 repeat' (first|refine Va ?_|(refine aB (ht:=fun hb=>?_) (hf:=fun hb=>?_)<;>(try simp at hb))|refine Vb ?_|refine Vl (hG:=?_)|fail)
 ·exact Vk [0,3,6,7] [] hL (ih (_,i+1) qI qI) (he:=rfl)
 ·exact⟨_,rfl⟩
theorem VG (n:Int):0≤IntKind.u64.wrap ((n%2^IntKind.u64.bits).toNat &&& 15%2^IntKind.u64.bits:Nat)∧IntKind.u64.wrap ((n%2^IntKind.u64.bits).toNat &&& 15%2^IntKind.u64.bits:Nat)<16:=by
 have h:(n%2^IntKind.u64.bits).toNat &&& 15%2^IntKind.u64.bits≤15:=Nat.and_le_right
 generalize (n%2^IntKind.u64.bits).toNat &&& 15%2^IntKind.u64.bits=m at h⊢
 rw[mD qH]
 omega
theorem VH (n:Int):aV Tryz.prog 303 [.lit (.int .u64 n)] (fun d=> ∃l:List UInt8,d= .lit (.string (bs l))∧l.length=16):=by
 refine bI Tryz.func303 rfl qC Tryz.ntmps303 _ rfl qE ?_
 repeat' (first|refine Va ?_|(refine aB (ht:=fun hb=>?_) (hf:=fun hb=>?_)<;>(try simp at hb))|refine Vb ?_|refine Vl (hG:=?_)|fail)
 refine kV (fun x:Int×Nat×List UInt8=>⟨[(0,.d (.lit (.int .u64 x.1))),(3,.os 5 x.2.2.length),(7,.d (.lit (.int .i64 16))),(8,.d (.lit (.int .i64 (x.2.1:Int))))],[(5,.own 5 1 (true,[.lit (.int .u8 0)]) (x.2.2.map aZ))]⟩) (fun x=>x.2.1≤16∧x.2.2.length=16) (fun x=>16-x.2.1) (n,0,List.replicate 16 0) ⟨qE,qE⟩ (fun C hc=>by exact aG [0,3,7,8] [5] qA qA) ?_
 rintro L hL ⟨n,i,l⟩ ⟨hi,hl⟩ ih
 simp only at hi hl ih⊢
 have hw:=VG n
 repeat' (first|refine Va ?_|(refine aB (ht:=fun hb=>?_) (hf:=fun hb=>?_)<;>(try simp at hb))|refine Vb ?_|refine Vl (hG:=?_)|fail)
 ·refine Vk [0,3,7,8] [5] hL (ih (n.fdiv (2^min 4 IntKind.u64.bits),i+1,l.set (15-i) ([48,49,50,51,52,53,54,55,56,57,97,98,99,100,101,102][(IntKind.u64.wrap ((n%2^IntKind.u64.bits).toNat &&& 15%2^IntKind.u64.bits:Nat)).toNat]?.getD 0)) (by simp only[List.length_set];omega) qI) (he:=?_)
  simp[List.map_set]
 ·exact⟨_,rfl,by simp[hl]⟩
theorem MY (l:List UInt8) (hl:l.length≤1000000):aV Tryz.prog 232 [.sl l.length fun i=>aZ (l[i]?.getD 0)] (fun d=> ∃l:List UInt8,d= .lit (.string (bs l))∧l.length=16):=by
 refine bI Tryz.func232 rfl qC Tryz.ntmps232 _ rfl qE ?_
 repeat' (first|refine Va ?_|(refine Ve (hf:=PH l hl) (hk:=?_);rintro _ ⟨n,rfl⟩)|(refine Ve (hf:=VH n) (hk:=?_);rintro _ ⟨m,rfl,hm⟩)|refine Vb ?_|refine Vl (hG:=?_)|fail)
 exact⟨_,rfl,hm⟩
end Go.Proofs.YtdjfgcjlnfnfhaaGreatDoor
