/- A MAP WHOSE VALUES ARE SLICES OF ONE'S OWN, appended to in a loop: the slices that a round does not look at are hidden from it. -/
import Derived.Test.YtdjfgcjlnfnfhaaGreatDoorLwTail
import Derived.Test.YtdjfgcjlnfnfhaaGreatDoorDtE
import Derived.Test.YtdjfgcjlnfnfhaaGreatDoorAdA
import Derived.Test.YtdjfgcjlnfnfhaaGreatDoorLwEx
import Derived.Test.YtdjfgcjlnfnfhaaGreatDoorRdE
set_option linter.unusedSimpArgs false
set_option linter.unusedVariables false
namespace Go.Lw
open Go.RowKit
theorem M6 {P:Program} {f:FuncId} {args:List D} {id n e sz:Nat} {gr:Bool×List D} {es:List (List D)} (hf:bJ P f (args.map V.d) [] (.os id n) [(id,.own e sz gr es)]) (hn:n≤es.length):aJ P f args (.sl n fun i=>es.getD i gr.2):=by
 refine⟨hf.1,fun ok w vs hok hstd hargs=>?_⟩
 obtain⟨hsz,hva⟩:=hargs
 refine(hf.2 ok (fun _=>⟨none,0,0⟩) w vs hok hstd (fun _ _ _ hl=>by cases hl) ⟨(fun _ _ hl=>by cases hl),(fun _ _ _ hl=>by cases hl),(fun _ _ _ _ _ hl=>by cases hl)⟩ ⟨by simpa using hsz,fun i x hi=>?_⟩).mono ?_
 ·rw[List.getElem?_map]at hi
  obtain⟨d,hd,rfl⟩:=Option.map_eq_some_iff.1 hi
  obtain⟨v,hv,hr⟩:=hva i d hd
  exact⟨v,hv,.d _ _ hr⟩
 ·rintro e' w' ⟨v,ok',h',rfl,L⟩
  refine⟨v,rfl,⟨L.os,L.tape,L.output,L.size,fun k hk=>L.block k hk fun⟨_,_,hl,_⟩=>by cases hl⟩,?_⟩
  have hup: ∀k,ok' k→fresh ok w w' k:=fun k hk=>by
   obtain⟨h1,h2⟩:=L.okb k hk
   rcases h2 with h2|h2
   ·exact .inl h2
   ·exact .inr ⟨h2,h1⟩
  have hres:=L.res
  have hlk:look id [(id,O.own e sz gr es)]=some (.own e sz gr es):=by simp[look]
  obtain⟨h1,h2,h3⟩:=L.BB.obj id _ hlk
  generalize hv:v=v0 at hres
  cases hres with
  |os _ _ hcap=>
   rcases h3 with⟨h4,h5,h6⟩|⟨b,cur,fz,g1,g2,g3,g4,g5,g6,g7⟩
   ·subst h5
    obtain rfl:n=0:=by simpa using hn
    exact .sl 0 _ _ _ 0 0 0 (fun _ _=>undef) qD h2 (fun h=>by omega) (fun i hi=>by omega) (fun i k hi=>by omega) (fun i k d hi=>by omega)
   ·have hb:fresh ok w w' b:=by
     rcases L.fresh id _ b hlk g1 with h|⟨o,h,_⟩
     ·exact .inr ⟨h,(L.BB.blk id _ b hlk g1).1⟩
     ·cases h
    let g:Nat→Nat→Value:=fun i k=>cur.getD (i*sz+k) undef
    have hcur: ∀i k,i<n→k<sz→cur[i*sz+k]?=some (g i k):=fun i k hi hk=>by
     have:i*sz+k<cur.size:=by
      rw[g6]
      have:(i+1)*sz≤(h' id).cap*sz:=Nat.mul_le_mul_right _ qD
      rw[Nat.add_mul]at this
      omega
     simp[g,Array.getElem?_eq_getElem this]
    have hes: ∀i,i<n→es[i]?=some (es.getD i gr.2):=fun i hi=>by simp[List.getD,List.getElem?_eq_getElem (show i<es.length by omega)]
    refine .sl n _ _ _ sz b 0 g hcap h2 (fun _=>⟨by simp[Hd.addr,g1],hb⟩) (fun i hi=>(g7 i _ (hes i hi)).1) (fun i k hi hk=>?_) (fun i k d hi hk=>?_)
    ·have:=hcur i k hi hk
     simpa[World.cell?,g2]using this
    ·obtain⟨v,h7,h8⟩:=(g7 i _ (hes i hi)).2 k d hk
     have hkl:k<sz:=by rw[←(g7 i _ (hes i hi)).1];exact(List.getElem?_eq_some_iff.1 hk).1
     rw[hcur i k hi hkl]at h7
     cases h7
     exact h8.mono (fun _ _=>rfl) hup
@[simp] theorem T8 (st:St) (caps:List D):iY st (caps.map V.d)=some (caps,false):=by
  induction caps with
  |nil=>rfl
  |cons x r ih=>simp[iY,asD,sD,ih]
end Go.Lw
namespace Go.Proofs.YtdjfgcjlnfnfhaaGreatDoor
open Go.Lw Go.RowKit
set_option maxRecDepth 100000
set_option maxHeartbeats 1000000
theorem JP (n:Nat) (f:Nat→Rc) (hn:n≤1000000) (g:FuncId) (caps:List D) (p:Nat→Bool) (hf: ∀j,j<n→aJ Tryz.prog g (.agg (f j).row::caps) (tru (p j))):
 aV Tryz.prog 149 [.sl n fun i=>(f i).row,.clo (.func g) caps] (IsF fun r=>(r= -1∧ ∀j,j<n→p j=false)∨ ∃j:Nat,r=j∧j<n∧p j=true∧ ∀i,i<j→p i=false):=by
 refine bI Tryz.func149 rfl qC Tryz.ntmps149 _ rfl qE ?_
 repeat' (first|refine Va ?_|(with_reducible refine aB (ht:=fun hb=>?_) (hf:=fun hb=>?_)<;>(try simp at hb))|refine Vb ?_|refine Vl (hG:=?_)|fail)
 refine dP [] [0,1,7,8] [] (fun j:Nat=>[(8,.d (int j))]) (fun _=>[]) (fun j=>j≤n∧ ∀i,i<j→p i=false) (n- ·) 0 qE ?_
 rintro L hL j ⟨hj,hi⟩ ih
 by_cases hjn:j<n
 ·have hC:=hf j hjn
  generalize hp:p j=b at hC
  repeat' (first|refine Va ?_|(with_reducible refine aB (ht:=fun hb=>?_) (hf:=fun hb=>?_)<;>(try simp at hb))|refine Vb ?_|refine Vl (hG:=?_)|refine Vc (hf:=qV) (h:=?_)|fail)
  all_goals try(exfalso;omega)
  ·exact⟨_,rfl,.inr ⟨j,rfl,hjn,by simp_all,hi⟩⟩
  ·refine Vk [0,1,7,8] [] hL (ih (j+1) ⟨qD,fun i hij=>?_⟩ qD)
   rcases Nat.lt_or_ge i j with h|h
   ·exact hi i h
   ·obtain rfl:i=j:=by omega
    simp_all
 ·repeat' (first|refine Va ?_|(with_reducible refine aB (ht:=fun hb=>?_) (hf:=fun hb=>?_)<;>(try simp at hb))|refine Vb ?_|refine Vl (hG:=?_)|fail)
  all_goals try(exfalso;omega)
  exact⟨_,rfl,.inl ⟨rfl,fun i hi'=>hi i qD⟩⟩
theorem PN (n:Nat) (f:Nat→Bs×Bs) (hn:n≤1000000) (g:FuncId) (caps:List D) (p:Nat→Bool) (hf: ∀j,j<n→aJ Tryz.prog g (.agg [str (f j).1,str (f j).2]::caps) (tru (p j))):
 aV Tryz.prog 233 [.sl n fun i=>[str (f i).1,str (f i).2],.clo (.func g) caps] (IsF fun r=>(r= -1∧ ∀j,j<n→p j=false)∨ ∃j:Nat,r=j∧j<n∧p j=true∧ ∀i,i<j→p i=false):=by
 refine bI Tryz.func233 rfl qC Tryz.ntmps233 _ rfl qE ?_
 repeat' (first|refine Va ?_|(with_reducible refine aB (ht:=fun hb=>?_) (hf:=fun hb=>?_)<;>(try simp at hb))|refine Vb ?_|refine Vl (hG:=?_)|fail)
 refine dP [] [0,1,7,8] [] (fun j:Nat=>[(8,.d (int j))]) (fun _=>[]) (fun j=>j≤n∧ ∀i,i<j→p i=false) (n- ·) 0 qE ?_
 rintro L hL j ⟨hj,hi⟩ ih
 by_cases hjn:j<n
 ·have hC:=hf j hjn
  generalize hp:p j=b at hC
  repeat' (first|refine Va ?_|(with_reducible refine aB (ht:=fun hb=>?_) (hf:=fun hb=>?_)<;>(try simp at hb))|refine Vb ?_|refine Vl (hG:=?_)|refine Vc (hf:=qV) (h:=?_)|fail)
  all_goals try(exfalso;omega)
  ·exact⟨_,rfl,.inr ⟨j,rfl,hjn,by simp_all,hi⟩⟩
  ·refine Vk [0,1,7,8] [] hL (ih (j+1) ⟨qD,fun i hij=>?_⟩ qD)
   rcases Nat.lt_or_ge i j with h|h
   ·exact hi i h
   ·obtain rfl:i=j:=by omega
    simp_all
 ·repeat' (first|refine Va ?_|(with_reducible refine aB (ht:=fun hb=>?_) (hf:=fun hb=>?_)<;>(try simp at hb))|refine Vb ?_|refine Vl (hG:=?_)|fail)
  all_goals try(exfalso;omega)
  exact⟨_,rfl,.inl ⟨rfl,fun i hi'=>hi i qD⟩⟩
theorem M7 (r:Rc) (id:Bs):aJ Tryz.prog 155 [r.d,.ip [str id] 0] (tru (decide (r.id=id))):=by
 refine aW Tryz.func155 rfl qC Tryz.ntmps155 _ rfl qE fun C hc=>?_
 repeat' (first|refine Wd ?_|(refine Wc ?_ ?_<;>intro hb<;>try simp at hb)|refine Wo ?_|fail)
 (refine Zl hc (hr:=?_))
 refine bT ?_
 rw[Bool.eq_iff_iff];simp
theorem M8 (n:Nat) (f:Nat→Rc) (hn:n≤1000000) (id:Bs):aV Tryz.prog 93 [.sl n fun i=>(f i).row,str id] (fun d=>(∃z:D,d= .tup [z,tru false]∧z= .agg [int 0,str [],str [],int 0,str [],.lit (.slice none 0 0),.lit (.slice none 0 0)])∨ ∃j,j<n∧d= .tup [(f j).d,tru true]∧(f j).id=id):=by
 have hI:=JP n f hn 155 [.ip [str id] 0] (fun j=>decide ((f j).id=id)) fun j _=>M7 (f j) id
 refine bI Tryz.func93 rfl qC Tryz.ntmps93 _ rfl qE ?_
 repeat' (first|refine Va ?_|(with_reducible refine aB (ht:=fun hb=>?_) (hf:=fun hb=>?_)<;>(try simp at hb))|refine Vb ?_|refine Vl (hG:=?_)|(refine Vf (hf:=hI) (hfl:=?_) (hk:=?_)<;>rintro _ ⟨r,rfl,hr⟩;(·rfl))|fail)
 ·exact .inl ⟨_,rfl,rfl⟩
 ·rcases hr with⟨rfl,_⟩|⟨j,rfl,hj,hp,_⟩
  ·simp at hb
  ·repeat' (first|refine Va ?_|(with_reducible refine aB (ht:=fun hb=>?_) (hf:=fun hb=>?_)<;>(try simp at hb))|refine Vb ?_|refine Vl (hG:=?_)|fail)
   refine .inr ⟨j,hj,rfl,by simpa using hp⟩
set_option maxHeartbeats 2000000
theorem M9 (x y s:Bs) (hx:x.length≤1000000):aJ Tryz.prog 234 [.agg [str x,str y],.ip [str s] 0] (tru (decide (small x=s))):=by
 have hs:=bP x qD
 refine aW Tryz.func234 rfl qC Tryz.ntmps234 _ rfl qE fun C hc=>?_
 repeat' (first|refine Wd ?_|(refine Wc ?_ ?_<;>intro hb<;>try simp at hb)|refine Zw hc (hf:=by exact hs) (hk:=?_)|refine Zq hc (hf:=by exact hs) (hk:=?_)|refine Wo ?_|fail)
 (refine Zl hc (hr:=?_))
 refine bT ?_
 rw[Bool.eq_iff_iff];simp
theorem Na (r:Rc) (h:oI r.nh r.ha r.hb) (s:Bs):aV Tryz.prog 157 [r.d,str s] (IsF fun k=> -1≤k∧(0≤k→k<r.nh)):=by
 have hI:=PN r.nh (fun i=>(r.ha i,r.hb i)) h.1 234 [.ip [str s] 0] (fun j=>decide (small (r.ha j)=s)) fun j hj=>M9 _ _ s (h.2 j hj).1
 refine bI Tryz.func157 rfl qC Tryz.ntmps157 _ rfl qE ?_
 repeat' (first|refine Va ?_|(with_reducible refine aB (ht:=fun hb=>?_) (hf:=fun hb=>?_)<;>(try simp at hb))|refine Vb ?_|refine Vl (hG:=?_)|(refine Vf (hf:=hI) (hfl:=?_) (hk:=?_)<;>rintro _ ⟨k,rfl,hk⟩;(·rfl))|fail)
 refine⟨_,rfl,?_⟩
 rcases hk with⟨rfl,_⟩|⟨j,rfl,hj,_⟩
 ·omega
 ·omega
theorem Co (s:Bs) (hs:s.length≤1000000):aV Tryz.prog 158 [str s] (fun d=> ∃n:Nat,d=int n∧n<10000):=by
 refine bI Tryz.func158 rfl qC Tryz.ntmps158 _ rfl qE ?_
 repeat' (first|refine Va ?_|(with_reducible refine aB (ht:=fun hb=>?_) (hf:=fun hb=>?_)<;>(try simp at hb))|refine Vb ?_|refine Vl (hG:=?_)|(refine Ve (hf:=tY _ qD 4 qD) (hk:=?_);rintro _ ⟨_|_,rfl,ht⟩)|(refine Ve (hf:=Aw _ (ht rfl).1 4 (ht rfl).2.1 qD ((fY _).1 (ht rfl).2.2)) (hk:=?_);rintro _ ⟨m,rfl,hm⟩)|fail)
 all_goals try contradiction
 ·exact⟨0,rfl,qD⟩
 ·exact⟨m,rfl,qD⟩
set_option maxHeartbeats 4000000
theorem WN {ρ:Type} {P:Program} {nt:Nat} {G:ρ→Prop} {st st2:St} {ops:Array Oper} {l:List Oper} {K:ρ→Ctx→St→Prop} (hs: ∀C,bB C P nt→Le C st2 st) (h:Exs P nt G fun r C=>cC C ops l st2 (K r C)):Exs P nt G fun r C=>cC C ops l st (K r C):=
 aQ (fun r C hc h=>Jz (hs C hc) h.get) h
theorem wA (n:Nat) (g:Nat→UInt8) (hn:n≤1000000):aJ Tryz.prog 15 [byF n g] (byF n g):=by
 have hM:bJ Tryz.prog 15 [.d (byF n g)] [] (.os 5 n) [(5,.own 5 1 (true,[.lit (.int .u8 0)]) ((List.range n).map fun i=>aZ (g i)))]:=by
  refine cY Tryz.func15 rfl qC Tryz.ntmps15 _ rfl qE fun C hc=>?_
  repeat' (first|refine Wd ?_|(refine Wc ?_ ?_<;>intro hb<;>try simp at hb)|(refine kH hc qA qA qA qE (fun bn hbn=>?_))|refine Wo ?_|fail)
  ·obtain rfl:n=0:=hbn hb
   exact aE [5] hc (kI [(2,none,5,5,[.lit (.int .u8 0)])] qA (aR rfl)) qA qA qE qE
  ·refine aE [5] hc (aR rfl) qA qA qE ?_
   simp[aZ]
 have h:=M6 (args:=[byF n g]) hM qE
 refine h.MD (nJ (fun i hi=>by simp[hi]) fun i k d hi hk=>⟨d,?_,cJ.refl _⟩)
 rw[←hk]
 simp[hi]
@[simp] theorem WO (o:Option (Bs×Bs)):(Option.map iU o).getD [str [],str []]=[str (o.getD ([],[])).1,str (o.getD ([],[])).2]:=by cases o<;>rfl
abbrev rd0 (k:Nat):Rd:=⟨k,0,[],[],0,[],[],0,[]⟩
abbrev rcZ:D:= .agg [int 0,str [],str [],int 0,str [],.lit (.slice none 0 0),.lit (.slice none 0 0)]
theorem K8 (n:Nat) (g:Nat→UInt8) (k:Nat) (hn:n≤1000000) (hk:k≤n):aV Tryz.prog 220 [byF n g,int k] (fun d=>(∃m f:Int,d= .tup [rcZ,int m,int f]∧f≠0)∨ ∃(r:Rc) (m:Nat),d= .tup [r.d,int m,int 0]∧r.Ok∧k<m∧m≤n):=by
 refine bI Tryz.func220 rfl qC Tryz.ntmps220 _ rfl qE ?_
 repeat' (first|refine Va ?_|(with_reducible refine aB (ht:=fun hb=>?_) (hf:=fun hb=>?_)<;>(try simp at hb))|refine Vn ?_|refine Vl (hG:=?_)|fail)
 refine WN (fun C hc=>cQ [(13,some 7,40000,256,[str [],str []])] [0,1,4,5,6,7,14] [4,13,40000] qA qA qA) ?_
 repeat' (first|refine Va ?_|(with_reducible refine aB (ht:=fun hb=>?_) (hf:=fun hb=>?_)<;>(try simp at hb))|refine Vn ?_|refine Vl (hG:=?_)|(refine Vm ([(100000,13),(50001,40000)]) (hf:=M5 n g (rd0 k) hn ⟨hk,qE,qE,qE,qE,qE,qE⟩) (hk:=?_);rintro _ _ ⟨b,y,⟨⟩,hy⟩;refine⟨_,_,qE,qA,qA,?_⟩)|fail)
 ·refine aQ (by
   intro r C hc hh
   refine bA (aG [4,7] [4,13,40000] qA qA) ?_
   (apply Xd 8 hc;(focus(refine Xp 0 hc (hk:=?_);refine Xm 1 hc (hk:=?_);refine Xp 2 hc (hk:=?_);refine Xp 3 hc (hk:=?_);refine Xa [4,5] (hx:=?_);refine⟨?_,?_⟩;(focus(refine Xw hc (hk:=?_);refine Xa [5] (hx:=?_);(focus(refine Xw hc (hk:=?_);refine Xm 6 hc (hk:=?_);refine Xm 7 hc (hk:=?_);refine Xz (hk:=?_);exact Xk [4,5,6] [4]))));(focus(refine Xw hc (hk:=?_);refine aI 4 [4,6,7] hc rfl qC rfl qA qF qE qA ?_;refine Xm 6 hc (hk:=?_);refine Xm 7 hc (hk:=?_);refine Xz (hk:=?_);exact Xb [4,5,6] [4])))))
   exact hh.get) ?_
  repeat' (first|refine Va ?_|(with_reducible refine aB (ht:=fun hb=>?_) (hf:=fun hb=>?_)<;>(try simp at hb))|refine Vn ?_|refine Vl (hG:=?_)|fail)
  exact .inl ⟨_,_,rfl,qK⟩
 obtain⟨F,hp⟩:=hy hb
 simp only at hp
 obtain⟨m,hm⟩: ∃m:Nat,y.len=m:=⟨y.len.toNat,by have:=F.len;omega⟩
 have hl:=F.len
 have hpos:=F.pos
 simp only[hm]at hl⊢
 refine Vb ?_
 repeat' (first|refine Va ?_|(with_reducible refine aB (ht:=fun hb=>?_) (hf:=fun hb=>?_)<;>(try simp at hb))|refine Vn ?_|refine Vl (hG:=?_)|refine Vc (hf:=by exact wA _ _ qD) (h:=?_)|fail)
 ·exact .inl ⟨_,_,rfl,qK⟩
 ·exact .inl ⟨_,_,rfl,qK⟩
 have hH:oI y.K.length (fun i=>(y.K[i]?.getD ([],[])).1) (fun i=>(y.K[i]?.getD ([],[])).2):=⟨by have:=F.k1;omega,fun i hi=>by
  simp only[List.getElem?_eq_getElem hi]
  exact F.k2 _ (List.getElem_mem hi)⟩
 refine Vb ?_
 repeat' (first|refine Va ?_|(with_reducible refine aB (ht:=fun hb=>?_) (hf:=fun hb=>?_)<;>(try simp at hb))|refine Vn ?_|refine Vl (hG:=?_)|(refine Vq (hf:=Cn _ _ qD) (hfl:=?_) (hk:=?_)<;>rintro _ ⟨l,rfl,hl⟩;(·rfl))|(refine Vf (hf:=l8 ⟨y.kind,y.id,y.of,y.time,y.key,y.K.length,fun i=>(y.K[i]?.getD ([],[])).1,fun i=>(y.K[i]?.getD ([],[])).2,_,_⟩ ⟨F.id,F.of,F.key,hH,by dsimp only;omega⟩) (hfl:=?_) (hk:=?_)<;>rintro _ ⟨e,rfl,he⟩;(·rfl))|fail)
 ·refine aQ (by
   intro r C hc hh
   refine bA (aG [4,7] [4,13,40000] qA qA) ?_
   (apply Xd 8 hc;(focus(refine Xp 0 hc (hk:=?_);refine Xm 1 hc (hk:=?_);refine Xp 2 hc (hk:=?_);refine Xp 3 hc (hk:=?_);refine Xa [4,5] (hx:=?_);refine⟨?_,?_⟩;(focus(refine Xw hc (hk:=?_);refine Xa [5] (hx:=?_);(focus(refine Xw hc (hk:=?_);refine Xm 6 hc (hk:=?_);refine Xm 7 hc (hk:=?_);refine Xz (hk:=?_);exact Xk [4,5,6] [4]))));(focus(refine Xw hc (hk:=?_);refine aI 4 [4,6,7] hc rfl qC rfl qA qF qE qA ?_;refine Xm 6 hc (hk:=?_);refine Xm 7 hc (hk:=?_);refine Xz (hk:=?_);exact Xb [4,5,6] [4])))))
   exact hh.get) ?_
  repeat' (first|refine Va ?_|(with_reducible refine aB (ht:=fun hb=>?_) (hf:=fun hb=>?_)<;>(try simp at hb))|refine Vn ?_|refine Vl (hG:=?_)|fail)
  exact .inl ⟨_,_,rfl,qK⟩
 ·exact .inl ⟨_,_,rfl,qN⟩
 ·exact .inr ⟨_,y.pos+m+4,qE,he qN,qD,qD⟩
set_option maxHeartbeats 2000000
abbrev Xj (K:List Bs):List (Key×D):=K.map fun s=>(Key.s s,tru true)
@[simp] theorem T9 (K:List Bs) (x:Bs):dT (.lit (.bool false)) (K.map fun s=>(Key.s s,.lit (.bool true))) (.s x)= .lit (.bool (decide (x∈K))):=by
  induction K with
  |nil=>rfl
  |cons y K ih=>
   simp only[List.map_cons,dT,Key.s.injEq,ih,List.mem_cons]
   by_cases h:y=x
   ·simp[h]
   ·rw[if_neg h]
    simp[Ne.symm h,fun e=>h (Eq.symm e)]
theorem Cp (K:List Bs) (x:Bs) (h:x∉K):gB (K.map fun s=>(Key.s s,.lit (.bool true))) (.s x) (.lit (.bool true))=(K++[x]).map fun s=>(Key.s s,.lit (.bool true)):=by
 induction K with
 |nil=>rfl
 |cons y K ih=>
  have h1: ¬y=x:=fun e=>h (by simp[e])
  simp only[List.map_cons,gB,Key.s.injEq,if_neg h1,List.cons_append]
  rw[ih fun e=>h (by simp[e])]
def Az (n:Nat) (f:Nat→Rc):Prop:=n≤1000∧(∀i,i<n→(f i).Ok)∧ ∀i j,i<j→j<n→(f i).id≠(f j).id
theorem xV (n:Nat) (f:Nat→Rc) (hf: ∀i,i<n→(f i).Fit) (hn:n≤1000000):aV Tryz.prog 92 [.sl n fun i=>(f i).row] (IsF fun e=>e=0→Az n f):=by
 refine bI Tryz.func92 rfl qC Tryz.ntmps92 _ rfl qE ?_
 repeat' (first|refine Va ?_|(with_reducible refine aB (ht:=fun hb=>?_) (hf:=fun hb=>?_)<;>(try simp at hb))|refine Vb ?_|refine Vl (hG:=?_)|fail)
 ·exact⟨_,rfl,qE⟩
 refine dP [] [0,3,4,12,13,14] [11] (fun x:Nat×Nat×List Bs=>[(4,.d (int x.2.1)),(14,.d (int x.1))]) (fun x=>[(11,.cB 0 (x.2.2.map fun s=>(Key.s s,.lit (.bool true))))]) (fun x=>x.1≤n∧x.2.1≤500000*x.1∧(∀i,i<x.1→(f i).Ok)∧(∀i j,i<j→j<x.1→(f i).id≠(f j).id)∧ ∀s,s∈x.2.2↔ ∃i,i<x.1∧(f i).id=s) (fun x=>n-x.1) (0,0,[]) qE ?_
 rintro L hL ⟨j,v,K⟩ ⟨hj,hv,hk,hd,hK⟩ ih
 simp only at hj hv hk hd hK ih⊢
 by_cases hjn:j<n
 ·have hC:=l8 (f j) (hf j hjn)
  repeat' (first|refine Va ?_|(with_reducible refine aB (ht:=fun hb=>?_) (hf:=fun hb=>?_)<;>(try simp at hb))|refine Vb ?_|refine Vl (hG:=?_)|(refine Ve (hf:=hC) (hk:=?_);rintro _ ⟨e,rfl,he⟩)|(refine Ve (hf:=PJ (f j) (he qN)) (hk:=?_);rintro _ ⟨m,g,rfl,hm⟩)|fail)
  all_goals try(exfalso;omega)
  ·exact⟨_,rfl,fun h=>absurd h qN⟩
  ·exact⟨_,rfl,qE⟩
  ·refine Vk [0,3,4,12,13,14] [11] hL (ih (j+1,v+m,K++[(f j).id]) ⟨qI,qI,fun i hi=>?_,fun i k hik hkj=>?_,fun s=>?_⟩ qI) (he:=by rw[Cp _ _ Qm];simp)
   ·simp only at hi
    rcases Nat.lt_or_ge i j with h|h
    ·exact hk i h
    ·obtain rfl:i=j:=by omega
     exact he qN
   ·simp only at hkj
    rcases Nat.lt_or_ge k j with h|h
    ·exact hd i k hik h
    ·obtain rfl:k=j:=by omega
     exact fun e=>hb ((hK _).2 ⟨i,hik,e⟩)
   ·simp only[List.mem_append,List.mem_singleton,hK s]
    constructor
    ·rintro(⟨i,h1,h2⟩|rfl)
     ·exact⟨i,qD,h2⟩
     ·exact⟨j,qD,rfl⟩
    ·rintro⟨i,h1,h2⟩
     rcases Nat.lt_or_ge i j with h|h
     ·exact .inl ⟨i,h,h2⟩
     ·obtain rfl:i=j:=by omega
      exact .inr h2.symm
 ·repeat' (first|refine Va ?_|(with_reducible refine aB (ht:=fun hb=>?_) (hf:=fun hb=>?_)<;>(try simp at hb))|refine Vb ?_|refine Vl (hG:=?_)|fail)
  all_goals try(exfalso;omega)
  ·exact⟨_,rfl,qE⟩
  ·exact⟨_,rfl,fun _=>⟨qD,fun i hi=>hk i qD,fun i k hi hk'=>hd i k hi qD⟩⟩
set_option maxHeartbeats 4000000
abbrev Fl:=List (Rc×Nat×Nat)
abbrev rc0:Rc:=⟨0,[],[],0,[],0,fun _=>[],fun _=>[],0,fun _=>0⟩
abbrev pF (R:Fl) (i:Nat):Rc:=(R[i]?.getD (rc0,0,0)).1
def Nb (x:Rc×Nat×Nat):List D:=[str x.1.id,int x.2.1,int x.2.2]
def Nc (x:Rc×Nat×Nat):List D:=x.1.row
abbrev flD (R:Fl):D:= .sl R.length fun i=>(pF R i).row
abbrev mkD (R:Fl):D:= .sl R.length fun i=>[str (R[i]?.getD (rc0,0,0)).1.id,int (R[i]?.getD (rc0,0,0)).2.1,int (R[i]?.getD (rc0,0,0)).2.2]
@[simp] theorem WQ (o:Option (Rc×Nat×Nat)):(Option.map Nc o).getD rc0.row=(o.getD (rc0,0,0)).1.row:=by cases o<;>rfl
@[simp] theorem WR (o:Option (Rc×Nat×Nat)):(Option.map Nb o).getD [str [],int 0,int 0]=[str (o.getD (rc0,0,0)).1.id,int (o.getD (rc0,0,0)).2.1,int (o.getD (rc0,0,0)).2.2]:=by cases o<;>rfl
theorem Rc.Ok.fit {r:Rc} (h:r.Ok):r.Fit:=⟨by have:=h.id;omega,by have:=h.of;omega,by have:=h.key;omega,⟨by have:=h.hd.1;omega,fun i hi=>by have:=h.hd.2 i hi;omega⟩,by have:=h.nb;omega⟩
theorem Ix (n:Nat) (g:Nat→UInt8) (hn:n≤9223372036854775807):aV Tryz.prog 146 [byF n g] (fun d=>(∃m e:Int,d= .tup [.lit (.slice none 0 0),.lit (.slice none 0 0),int m,int e]∧e≠0)∨ ∃R:Fl,d= .tup [flD R,mkD R,int 0,int 0]∧Az R.length (pF R)∧n≤500000):=by
 refine bI Tryz.func146 rfl qC Tryz.ntmps146 _ rfl qE ?_
 repeat' (first|refine Va ?_|(with_reducible refine aB (ht:=fun hb=>?_) (hf:=fun hb=>?_)<;>(try simp at hb))|refine Vn ?_|refine Vl (hG:=?_)|fail)
 ·exact .inl ⟨_,_,rfl,qK⟩
 refine dP [(6,none,40000,183,rc0.row),(7,none,40001,179,[str [],int 0,int 0])] [0,6,7,8] [40000,40001] (fun x:Nat×Fl=>[(6,.os 40000 x.2.length),(7,.os 40001 x.2.length),(8,.d (int x.1))]) (fun x=>[(40000,.own 183 7 (true,rc0.row) (x.2.map Nc)),(40001,.own 179 3 (true,[str [],int 0,int 0]) (x.2.map Nb))]) (fun x=>x.1≤n∧x.2.length≤x.1∧ ∀z∈x.2,z.1.Ok) (fun x=>n-x.1) (0,[]) qE ?_
 rintro L hL ⟨j,R⟩ ⟨hj,hR,hk⟩ ih
 simp only at hj hR hk ih⊢
 have hE:=xV R.length (pF R) (fun i hi=>by
  show(R[i]?.getD (rc0,0,0)).1.Fit
  rw[List.getElem?_eq_getElem hi]
  exact(hk _ (List.getElem_mem hi)).fit) qD
 by_cases hjn:j<n
 ·repeat' (first|refine Va ?_|(with_reducible refine aB (ht:=fun hb=>?_) (hf:=fun hb=>?_)<;>(try simp at hb))|refine Vn ?_|refine Vl (hG:=?_)|(refine Ve (hf:=K8 n g j qD hj) (hk:=?_);rintro _ (⟨m,f,rfl,hf⟩|⟨r,m,rfl,hr,h1,h2⟩))|fail)
  all_goals try contradiction
  all_goals try(exfalso;omega)
  ·exact .inl ⟨_,_,rfl,hf⟩
  ·refine aQ (by
    intro r C hc hh
    refine bA (aG [0,6,7,8,9,10] [9,40000,40001] qA qA) ?_
    (apply Xd 15 hc;(focus(refine Xm 0 hc (hk:=?_);refine Xm 4 hc (hk:=?_);refine Xp 5 hc (hk:=?_);refine Xm 7 hc (hk:=?_);refine Xm 8 hc (hk:=?_);refine Xp 9 hc (hk:=?_);refine Xa [1,6] (hx:=?_);refine⟨?_,?_⟩;(focus(refine Xw hc (hk:=?q100);refine Xa [2,6] (hx:=?nq100);refine⟨?_,?_⟩;(focus(refine Xw hc (hk:=?q101);refine Xa [3,6] (hx:=?nq101);refine⟨?_,?_⟩;(focus(refine Xw hc (hk:=?q102);refine aI 6 [6,10,11,12,13,14] hc rfl qC rfl qA qF qE qA ?nq102;refine Xp 10 hc (hk:=?_);refine Xa [11] (hx:=?_);(focus(refine Xw hc (hk:=?q103);refine Xa [12] (hx:=?nq103);(focus(refine Xw hc (hk:=?q104);refine Xm 13 hc (hk:=?nq104);refine Xm 14 hc (hk:=?_);refine Xz (hk:=?_);exact Xk [0,6,7,8,10] [40000,40001]))))));(focus(refine Xw hc (hk:=?q105);refine Xp 10 hc (hk:=?nq105);refine Xa [3,11] (hx:=?_);refine⟨?_,?_⟩;(focus(refine Xw hc (hk:=?q106);refine Xa [11] (hx:=?nq106);(focus(refine Xw hc (hk:=?_);exact Xq ?q103))));(focus(refine Xw hc (hk:=?q107);refine Xa [3] (hx:=?nq107);(focus(refine Xw hc (hk:=?_);exact Xq ?q103))))))));(focus(refine Xw hc (hk:=?q108);refine Xp 10 hc (hk:=?nq108);refine Xa [2,11] (hx:=?_);refine⟨?_,?_⟩;(focus(refine Xw hc (hk:=?q109);refine Xa [3,11] (hx:=?nq109);refine⟨?_,?_⟩;(focus(refine Xw hc (hk:=?_);exact Xq ?q106));(focus(refine Xw hc (hk:=?_);exact Xq ?q107))));(focus(refine Xw hc (hk:=?q1010);refine Xa [2] (hx:=?nq1010);(focus(refine Xw hc (hk:=?_);exact Xq ?q107))))))));(focus(refine Xw hc (hk:=?q1011);refine Xp 10 hc (hk:=?nq1011);refine Xa [1,11] (hx:=?_);refine⟨?_,?_⟩;(focus(refine Xw hc (hk:=?q1012);refine Xa [2,11] (hx:=?nq1012);refine⟨?_,?_⟩;(focus(refine Xw hc (hk:=?_);exact Xq ?q109));(focus(refine Xw hc (hk:=?_);exact Xq ?q1010))));(focus(refine Xw hc (hk:=?q1013);refine aI 1 [1,2,3,12,13,14] hc rfl qC rfl qA qF qE qA ?nq1013;refine Xa [2] (hx:=?_);(focus(refine Xw hc (hk:=?_);exact Xq ?q107)))))))))
    exact hh.get) ?_
   repeat' (first|refine Va ?_|(with_reducible refine aB (ht:=fun hb=>?_) (hf:=fun hb=>?_)<;>(try simp at hb))|refine Vn ?_|refine Vl (hG:=?_)|fail)
   refine Vk [0,6,7,8] [40000,40001] hL (ih (m,R++[(r,j,m)]) ⟨h2,qH,fun z hz=>?_⟩ qI) (he:=by simp[Nc,Nb])
   rcases List.mem_append.1 hz with hz|hz
   ·exact hk z hz
   ·simp at hz
    subst hz
    exact hr
 ·repeat' (first|refine Va ?_|(with_reducible refine aB (ht:=fun hb=>?_) (hf:=fun hb=>?_)<;>(try simp at hb))|refine Vn ?_|refine Vl (hG:=?_)|(refine Vf (hf:=hE) (hfl:=?_) (hk:=?_)<;>rintro _ ⟨e,rfl,he⟩;(·rfl))|fail)
  all_goals try contradiction
  all_goals try(exfalso;omega)
  ·exact .inl ⟨_,_,rfl,qN⟩
  ·exact .inr ⟨R,qE,he qN,qD⟩
theorem PO (n:Nat) (g:Nat→UInt8) (hn:n≤9223372036854775807): ∃(R:Fl) (m e:Int),(e=0→Az R.length (pF R)∧n≤500000)∧aJ Tryz.prog 82 [byF n g] (.tup [flD R,int m,int e])∧aJ Tryz.prog 83 [byF n g] (.tup [mkD R,int e]):=by
 obtain⟨_,⟨m,e,rfl,he⟩|⟨R,rfl,hR⟩,h⟩:=Ix n g hn
 ·refine⟨[],m,e,fun h=>absurd h he,aJ.MD (res:= .tup [.lit (.slice none 0 0),int m,int e]) ?_ (eZ (bY _)),aJ.MD (res:= .tup [.lit (.slice none 0 0),int e]) ?_ (eZ (bY _))⟩
  ·refine aW Tryz.func82 rfl qC Tryz.ntmps82 _ rfl qE fun C hc=>?_
   repeat' (first|refine Wd ?_|(refine Wc ?_ ?_<;>intro hb<;>try simp at hb)|refine Zw hc (hf:=Qc) (hk:=?_)|refine Zq hc (hf:=Qc) (hk:=?_)|refine Wo ?_|fail)
   (refine Zl hc (hr:=?_))
   simp
  ·refine aW Tryz.func83 rfl qC Tryz.ntmps83 _ rfl qE fun C hc=>?_
   repeat' (first|refine Wd ?_|(refine Wc ?_ ?_<;>intro hb<;>try simp at hb)|refine Zw hc (hf:=Qc) (hk:=?_)|refine Zq hc (hf:=Qc) (hk:=?_)|refine Wo ?_|fail)
   (refine Zl hc (hr:=?_))
   simp
 ·refine⟨R,0,0,fun _=>hR,?_,?_⟩
  ·refine aW Tryz.func82 rfl qC Tryz.ntmps82 _ rfl qE fun C hc=>?_
   repeat' (first|refine Wd ?_|(refine Wc ?_ ?_<;>intro hb<;>try simp at hb)|refine Zw hc (hf:=Qc) (hk:=?_)|refine Zq hc (hf:=Qc) (hk:=?_)|refine Wo ?_|fail)
   (refine Zl hc (hr:=?_))
   simp
  ·refine aW Tryz.func83 rfl qC Tryz.ntmps83 _ rfl qE fun C hc=>?_
   repeat' (first|refine Wd ?_|(refine Wc ?_ ?_<;>intro hb<;>try simp at hb)|refine Zw hc (hf:=Qc) (hk:=?_)|refine Zq hc (hf:=Qc) (hk:=?_)|refine Wo ?_|fail)
   (refine Zl hc (hr:=?_))
   simp
theorem _root_.Go.Lw.bJ.mx {P:Program} {f:FuncId} {args:List V} {aD objs':List (Nat×O)} {res:V} (h:bJ P f args aD res objs'):vS P f args aD fun r=>r=(res,objs'):=⟨_,rfl,h⟩
abbrev K9 (g:List UInt8):O:= .own 5 1 (true,[.lit (.int .u8 0)]) (g.map aZ)
abbrev SW (K:List (Bs×Bs)):O:= .own 256 2 (true,[str [],str []]) (K.map iU)
theorem Nd (n:Nat) (g:Nat→UInt8) (hn:n≤1000000):bJ Tryz.prog 15 [.d (byF n g)] [] (.os 5 n) [(5,K9 ((List.range n).map g))]:=by
 refine cY Tryz.func15 rfl qC Tryz.ntmps15 _ rfl qE fun C hc=>?_
 repeat' (first|refine Wd ?_|(refine Wc ?_ ?_<;>intro hb<;>try simp at hb)|(refine kH hc qA qA qA qE (fun bn hbn=>?_))|refine Wn ?_|fail)
 ·obtain rfl:n=0:=hbn hb
  exact aE [5] hc (kI [(2,none,5,5,[.lit (.int .u8 0)])] qA (aR rfl)) qA qA qE qE
 ·refine aE [5] hc (aR rfl) qA qA qE ?_
  simp[aZ]
theorem La (n:Nat) (a b:Nat→Bs) (hn:n≤1000000):bJ Tryz.prog 156 [.d (hdF n a b)] [] (.os 5 n) [(5,SW ((List.range n).map fun i=>(a i,b i)))]:=by
 refine cY Tryz.func156 rfl qC Tryz.ntmps156 _ rfl qE fun C hc=>?_
 repeat' (first|refine Wd ?_|(refine Wc ?_ ?_<;>intro hb<;>try simp at hb)|(refine kH hc qA qA qA qE (fun bn hbn=>?_))|refine Wn ?_|fail)
 ·obtain rfl:n=0:=hbn hb
  exact aE [5] hc (kI [(2,none,5,256,[str [],str []])] qA (aR rfl)) qA qA qE qE
 ·refine aE [5] hc (aR rfl) qA qA qE ?_
  simp[iU]
@[simp] theorem Ua (x:Bs×Bs):(iU x).length=2:=rfl
@[simp] theorem Ub (x:Bs×Bs) (d:D):d∈iU x↔d=str x.1∨d=str x.2:=by simp[iU]
theorem Lb {α:Type} (A:List α) (i:Nat) (z:α) (hi:i<A.length):
 List.take (A.length-1) (A.take i++((A.drop (i+1)).take (A.length-(i+1))++A.drop (A.length-1)))++([z]++List.drop A.length (A.take i++((A.drop (i+1)).take (A.length-(i+1))++A.drop (A.length-1))))=A.eraseIdx i++[z]:=by
 have h1:(A.drop (i+1)).take (A.length-(i+1))=A.drop (i+1):=List.take_of_length_le qE
 rw[h1,←List.append_assoc (A.take i),List.eraseIdx_eq_take_drop_succ]
 have hl:(A.take i++A.drop (i+1)).length=A.length-1:=by simp;omega
 have hd:List.drop A.length (A.take i++A.drop (i+1)++A.drop (A.length-1))=[]:=List.drop_eq_nil_of_le qH
 rw[List.take_left' hl,hd,List.append_nil]
theorem Iy (K:List (Bs×Bs)) (i:Nat) (hi:i<K.length) (hl:K.length≤2000):
 bJ Tryz.prog 159 [.os 50001 K.length,.d (int i),.d (int (i+1:Nat))] [(50001,SW K)]
  (.os 50001 (K.length-1)) [(50001,.own 256 2 (true,[str [],str []]) ((K.eraseIdx i++[([],[])]).map iU))]:=by
 refine cY Tryz.func159 rfl qC Tryz.ntmps159 _ rfl qE fun C hc=>?_
 repeat' (first|refine Wd ?_|(refine Wc ?_ ?_<;>intro hb<;>try simp at hb)|refine Wm ?_|fail)
 all_goals try contradiction
 all_goals try(exfalso;omega)
 (refine dC 6 hc qC qC ?_;try simp only[List.take_succ_cons,List.take_zero,List.drop_succ_cons,List.drop_zero])
 repeat' (first|refine Wd ?_|(refine Wc ?_ ?_<;>intro hb<;>try simp at hb)|refine Wm ?_|fail)
 all_goals try contradiction
 all_goals try(exfalso;omega)
 have e1:i+(K.length-(i+1))=K.length-1:=by omega
 have e2:K.length-(K.length-1)=1:=by omega
 have e3:K.length-1+1=K.length:=by omega
 simp only[e1,e2,e3]
 have hr:=Lb (K.map iU) i [str [],str []] qU
 rw[List.length_map]at hr
 refine aE [50001] hc (aR rfl) qA qA qE ?_
 have hm:(K.eraseIdx i).map iU=(K.map iU).eraseIdx i:=by rw[List.eraseIdx_eq_take_drop_succ,List.eraseIdx_eq_take_drop_succ,List.map_append,List.map_take,List.map_drop]
 rw[List.map_append,hm,show List.map iU [([],[])]=[[str [],str []]]from rfl,←hr]
 simp
end Go.Proofs.YtdjfgcjlnfnfhaaGreatDoor
namespace Go.Lw
open Go.RowKit
section
variable {C:Ctx} {P:Program} {nt:Nat} {st st':St} {ok:Nat→Prop} {h:Nat→Hd} {a:Act} {w w':World} {Q:Exit→St→Prop} {K:St→Prop} {ops:Array Oper} {rest l:List Oper}
theorem Rep.cD (r:Rep C st ok h a w) {g:Nat} {x:V} {v:Value} (hv:RdV w ok h x v) (hs:bU g x=false) (hf:bK g st=true) (hnone:look g st.aD=none) (hid:g<100000):Rep C {st with aD:=place g (.cD x v) st.aD} ok (upd h g ⟨none,0,0⟩) a w:=by
 have hobj: ∀j o,look j (place g (O.cD x v) st.aD)=some o→(g=j∧o= .cD x v)∨(j≠g∧look j st.aD=some o):=fun j o hj=>by
  rw[a8]at hj
  split at hj
  ·rename_i e';exact .inl ⟨e',(Option.some.inj hj).symm⟩
  ·rename_i e';exact .inr ⟨fun e1=>e' e1.symm,hj⟩
 have hm:=r.mem
 refine⟨⟨hm.os,hm.tape,hm.output,hm.size,hm.block,hm.okb,fun j o hj=>?_,fun j o b hj hb=>?_,fun j j' o o' b hj hj' hne hb=>?_⟩,r.defers,r.nt,fun j hj=>(bS h g _ j qD).trans (r.pin j hj),fun j x hx=>?_⟩
 ·rcases hobj j o hj with⟨rfl,rfl⟩|⟨hne,hj⟩
  ·exact⟨Qz,hv.swap (bS h g _) hs⟩
  ·exact(hm.obj j o hj).swap (bS h g _) hne (kE hf hne hj)
 ·rcases hobj j o hj with⟨rfl,rfl⟩|⟨hne,hj⟩
  ·rw[aM]at hb;cases hb
  ·rw[bS h g _ j hne]at hb
   exact hm.blk j o b hj hb
 ·rcases hobj j o hj with⟨rfl,rfl⟩|⟨hne1,hj⟩
  ·rw[aM]at hb;cases hb
  ·rw[bS h g _ j hne1]at hb
   rcases hobj j' o' hj' with⟨rfl,rfl⟩|⟨hne2,hj'⟩
   ·rw[aM];intro hx;cases hx
   ·rw[bS h g _ j' hne2]
    exact hm.apart j j' o o' b hj hj' hne hb
 ·obtain⟨h1,v,h2,h3⟩:=r.slot j x hx
  exact⟨h1,v,h2,h3.swap (bS h g _) (iX hf hx)⟩
theorem Iz (g t:Nat) {id n:Nat} (hl:look t st.aO=some (.os id n)) (hne:id≠g) (hf:bK g st=true) (hnone:(look g st.aD).isNone=true) (hid:g<100000) (r:kZ C st a w):
 ∃A cap,kZ C ⟨place t (.d (.lit (.slice A n cap))) st.aO,place g (.cD (.os id n) (.slice A n cap)) st.aD⟩ a w:=by
 obtain⟨ok,h,r⟩:=r
 obtain⟨h1,v,h2,h3⟩:=r.slot t _ hl
 cases h3 with
 |os _ _ hc=>
  refine⟨(h id).addr,(h id).cap,ok,upd h g ⟨none,0,0⟩,?_⟩
  have rg:=r.cD (g:=g) (x:= .os id n) (RdV.os id n hc) (by simpa[bU]using hne) hf (by simpa using hnone) hid
  refine⟨rg.mem,rg.defers,rg.nt,rg.pin,fun i y hi=>?_⟩
  rw[a8]at hi
  split at hi
  ·rename_i e
   subst e;cases hi
   exact⟨h1,_,h2,.d _ _ (.lit _)⟩
  ·exact rg.slot i y hi
theorem IA (g t:Nat) {x:V} {v:Value} (hl:look t st.aO=some (.d (.lit v))) (hg:look g st.aD=some (.cD x v)):Le C ⟨place t x st.aO,st.aD⟩ st:=by
 rintro a w ⟨ok,h,r⟩
 refine⟨ok,h,r.mem,r.defers,r.nt,r.pin,fun i y hi=>?_⟩
 rw[a8]at hi
 split at hi
 ·rename_i e
  subst e;cases hi
  obtain⟨h1,u,h2,h3⟩:=r.slot t _ hl
  have:=aX h3
  subst this
  exact⟨h1,_,h2,(r.mem.obj g _ hg).2⟩
 ·exact r.slot i y hi
theorem IB {listed:Array Bool} {fuel:Nat} (g t:Nat) {id n:Nat} (hl:look t st.aO=some (.os id n)) (hne:id≠g) (hf:bK g st=true) (hnone:(look g st.aD).isNone=true) (hid:g<100000)
 (hk: ∀A cap,eD C ops fuel listed ⟨place t (.d (.lit (.slice A n cap))) st.aO,place g (.cD (.os id n) (.slice A n cap)) st.aD⟩ K):eD C ops fuel listed st K:=by
 intro a w r
 obtain⟨A,cap,r'⟩:=Iz g t hl hne hf hnone hid r
 exact hk A cap a w r'
theorem nP {listed:Array Bool} {fuel:Nat} (g t:Nat) {x:V} {v:Value} {st2:St} (hl:aA (look t st.aO) (.d (.lit v))) (hg:aA (look g st.aD) (.cD x v)) (h2:aA (some (St.mk (place t x st.aO) st.aD)) st2) (hk:eD C ops fuel listed st2 K):eD C ops fuel listed st K:=by
 cases h2
 intro a w r
 exact hk a w (IA g t hl hg a w r)
theorem DB (n:Nat) {id:Nat} {l:List Oper} (hc:bB C P nt) (hm:P.follows .mixedOrders=true) (hn:l.length=n) (hl:eD C l.toArray n (Array.replicate n false) st fun st'=>Q .normal st'):ewp C (.region id l.toArray true) Q st:=by
 obtain⟨rfl,rfl,hok⟩:=hc
 subst hn
 rintro a w ⟨ok,h,r⟩
 refine wp_mono (Q:=fun e a' w'=>e= .normal∧ ∃st',Q .normal st'∧kZ C st' a' w') (wp_region_any hm (hl a _ ⟨ok,h,?_⟩ _ (fun a' w' st' hq r'=>⟨rfl,st',hq,r'⟩) fun c a w hq=>by cases hq.1)) ?_
 ·exact r.below hok ((Below.refl _ w).drew)
 ·rintro e a' w' ⟨rfl,st',hq,r'⟩
  exact⟨st',hq,r'⟩
end
end Go.Lw
namespace Go.Lw
open Go.RowKit
structure Hid (C:Ctx) (st:St) (ok:Nat→Prop) (h:Nat→Hd) (w:World) (B:Nat→Prop):Prop where
 lt: ∀b,B b→b<w.heap.size
 ge: ∀b,B b→C.w0.heap.size≤b
 no: ∀b,B b→ ¬ok b
 ne: ∀id o b,look id st.aD=some o→(h id).blk=some b→ ¬B b
theorem frame {C:Ctx} (hc:cS C) {c:Code} {Q:Exit→St→Prop} {st:St} (hids: ∀id o,look id st.aD=some o→50000≤id) {ok:Nat→Prop} {h:Nat→Hd} {a:Act} {w:World} {B:Nat→Prop}
 (hx: ∀C':Ctx,bB C' C.P C.nt→ewp C' c Q st) (r:Rep C st ok h a w) (hB:Hid C st ok h w B):
 Code.wp C.P c (fun e a' w'=> ∃st' ok' h',Q e st'∧Rep C st' ok' h' a' w'∧Hid C st' ok' h' w' B∧(∀b,B b∨ok b→w'.heap[b]?=w.heap[b]?)∧(∀b,ok b→ok' b)∧ ∀id o b,look id st'.aD=some o→(h' id).blk=some b→C.w0.heap.size≤b∨ ∃o,look id st.aD=some o∧(h id).blk=some b) a w:=by
 obtain⟨C',hC'⟩: ∃C':Ctx,C'=⟨C.P,w,ok,C.nt,h,st.aD⟩:=⟨_,rfl⟩
 have hm:=r.mem
 have hlent: ∀{id b},C'.nC id b→ ∃o,look id st.aD=some o∧(h id).blk=some b:=by
  intro id b hl
  subst hC'
  exact hl
 have hst:=hm.std hc
 have hcok:cS C':=by
  subst hC'
  refine⟨?_,hc.nt,hids,hst,?_⟩
  ·rintro b ⟨id,o,h1,h2⟩
   exact(hm.blk id o b h1 h2).1
  ·rintro b ⟨id,o,h1,h2⟩
   rcases(hm.blk id o b h1 h2).2.2 with h3|h3
   ·exact Nat.le_trans hc.std.1 h3
   ·exact hc.low b ⟨id,h3⟩
 have r0:Rep C' st ok h a w:=by
  subst hC'
  refine⟨⟨rfl,rfl,rfl,Nat.le_refl _,fun _ _ _=>rfl,?_,hm.obj,?_,hm.apart⟩,r.defers,r.nt,fun _ _=>rfl,r.slot⟩
  ·intro k hk
   refine⟨(hm.okb k hk).1,?_,.inl hk⟩
   rintro⟨id,o,h1,h2⟩
   exact(hm.blk id o k h1 h2).2.1 hk
  ·intro id o b h1 h2
   exact⟨(hm.blk id o b h1 h2).1,(hm.blk id o b h1 h2).2.1,.inr ⟨o,h1,h2⟩⟩
 have hwp:=hx C' ⟨by subst hC';rfl,by subst hC';rfl,hcok⟩ a w ⟨ok,h,r0⟩
 have hP:C'.P=C.P:=by subst hC';rfl
 have hw0:C'.w0=w:=by subst hC';rfl
 have hok0:C'.ok0=ok:=by subst hC';rfl
 have hh0:C'.h0=h:=by subst hC';rfl
 have hnt0:C'.nt=C.nt:=by subst hC';rfl
 have hl2: ∀{id o b},look id st.aD=some o→(h id).blk=some b→C'.nC id b:=by
  intro id o b h1 h2
  subst hC'
  exact⟨o,h1,h2⟩
 clear hC'
 rw[hP]at hwp
 refine wp_mono hwp ?_
 rintro e a' w' ⟨st',hq,ok',h',r'⟩
 have hm':=r'.mem
 have hsz:w.heap.size≤w'.heap.size:=by have:=hm'.size;rwa [hw0]at this
 have hblk: ∀k,k<w.heap.size→(∀id o,look id st.aD=some o→(h id).blk≠some k)→w'.heap[k]?=w.heap[k]?:=by
  intro k hk hno
  have:=hm'.block k (by rw[hw0];exact hk) (by
   rintro⟨id,hl⟩
   obtain⟨o,h1,h2⟩:=hlent hl
   exact hno id o h1 h2)
  rwa [hw0]at this
 have hokl: ∀k,ok k→ ∀id o,look id st.aD=some o→(h id).blk≠some k:=fun k hk id o h1 h2=>(hm.blk id o k h1 h2).2.1 hk
 have hBl: ∀k,B k→ ∀id o,look id st.aD=some o→(h id).blk≠some k:=fun k hk id o h1 h2=>hB.ne id o k h1 h2 hk
 have hok': ∀k,ok' k→k<w'.heap.size∧(ok k∨w.heap.size≤k):=fun k hk=>by
  have:=hm'.okb k hk
  rw[hok0,hw0]at this
  exact⟨this.1,this.2.2⟩
 have hfr: ∀id o b,look id st'.aD=some o→(h' id).blk=some b→ ¬ok' b∧b<w'.heap.size∧(w.heap.size≤b∨ ∃o,look id st.aD=some o∧(h id).blk=some b):=fun id o b h1 h2=>by
  have:=hm'.blk id o b h1 h2
  rw[hw0]at this
  exact⟨this.2.1,this.1,this.2.2.imp_right fun hl=>hlent hl⟩
 have hnotok: ∀id o b,look id st'.aD=some o→(h' id).blk=some b→ ¬(ok b∨ok' b):=by
  rintro id o b h1 h2 (h3|h3)
  ·rcases(hfr id o b h1 h2).2.2 with h4|⟨o2,h4,h5⟩
   ·have:=(hm.okb b h3).1
    omega
   ·exact hokl b h3 id o2 h4 h5
  ·exact(hfr id o b h1 h2).1 h3
 refine⟨st',fun k=>ok k∨ok' k,h',hq,⟨⟨?_,?_,?_,Nat.le_trans hm.size hsz,?_,?_,?_,?_,hm'.apart⟩,r'.defers,by rw[←hnt0];exact r'.nt,?_,?_⟩,⟨?_,hB.ge,?_,?_⟩,?_,fun b hb=> .inl hb,?_⟩
 ·rw[hm'.os,hw0];exact hm.os
 ·rw[hm'.tape,hw0];exact hm.tape
 ·rw[hm'.output,hw0];exact hm.output
 ·intro k hk hnl
  rw[hblk k (by have:=hm.size;omega) (fun id o h1 h2=>by
   rcases(hm.blk id o k h1 h2).2.2 with h3|h3
   ·omega
   ·exact hnl ⟨_,h3⟩)]
  exact hm.block k hk hnl
 ·rintro k (hk|hk)
  ·have:=hm.okb k hk
   exact⟨qD,this.2⟩
  ·obtain⟨h1,h2⟩:=hok' k hk
   rcases h2 with h2|h2
   ·have:=hm.okb k h2
    exact⟨h1,this.2⟩
   ·have:=hm.size
    exact⟨h1,fun hl=>by have:=hc.lt k hl;omega,.inr qD⟩
 ·intro id o h1
  exact(hm'.obj id o h1).mono (fun _ _=>rfl) (fun b hb=> .inr hb) (fun _ _=>rfl)
 ·intro id o b h1 h2
  obtain⟨h3,h4,h5⟩:=hfr id o b h1 h2
  refine⟨h4,hnotok id o b h1 h2,?_⟩
  rcases h5 with h5|⟨o2,h5,h6⟩
  ·exact .inl (Nat.le_trans hm.size h5)
  ·exact(hm.blk id o2 b h5 h6).2.2
 ·intro id hid
  rw[r'.pin id hid,hh0]
  exact r.pin id hid
 ·intro i x hx'
  obtain⟨h1,v,h2,h3⟩:=r'.slot i x hx'
  exact⟨by rw[←hnt0];exact h1,v,h2,h3.mono (fun _ _=>rfl) fun b hb=> .inr hb⟩
 ·intro b hb
  have:=hB.lt b hb
  omega
 ·rintro b hb (h1|h1)
  ·exact hB.no b hb h1
  ·rcases(hok' b h1).2 with h2|h2
   ·exact hB.no b hb h2
   ·have:=hB.lt b hb
    omega
 ·intro id o b h1 h2 hb
  rcases(hfr id o b h1 h2).2.2 with h3|⟨o2,h3,h4⟩
  ·have:=hB.lt b hb
   omega
  ·exact hB.ne id o2 b h3 h4 hb
 ·rintro b (hb|hb)
  ·exact hblk b (hB.lt b hb) (hBl b hb)
  ·exact hblk b (hm.okb b hb).1 (hokl b hb)
 ·intro id o b h1 h2
  rcases(hfr id o b h1 h2).2.2 with h3|h3
  ·exact .inl (Nat.le_trans hm.size h3)
  ·exact .inr h3
def wB (C:Ctx) (st:St) (h:Nat→Hd):Prop:= ∀id o b,look id st.aD=some o→(h id).blk=some b→C.w0.heap.size≤b
theorem IC {C:Ctx} (hc:cS C) {st:St} {ok:Nat→Prop} {h:Nat→Hd} {a:Act} {w:World} (r:Rep C st ok h a w) (hl:st.aD.all (fun p=>decide (p.1<50000))=true):wB C st h:=by
 intro id o b h1 h2
 rcases(r.mem.blk id o b h1 h2).2.2 with h3|⟨o2,h3,_⟩
 ·exact h3
 ·have:=hc.ids id o2 h3
  have:=List.all_eq_true.1 hl _ (cX h1)
  simp at this
  omega
def xW (σ:List (Nat×Nat)) (st:St):St:=⟨st.aO.map fun p=>(p.1,gJ σ p.2),st.aD.map fun p=>(ren σ p.1,vO σ p.2)⟩
theorem Rep.ren (σ:List (Nat×Nat)) {C:Ctx} {st:St} {ok:Nat→Prop} {h:Nat→Hd} {a:Act} {w:World} (r:Rep C st ok h a w) (hown:wB C st h) (hσ:σ.all (fun p=>decide (p.2<100000)&&bK p.2 st&&(look p.2 st.aD).isNone&&decide (fJ σ p.2=some p.1))=true):
 ∃h',Rep C (xW σ st) ok h' a w∧wB C (xW σ st) h':=by
 simp only[List.all_eq_true,Bool.and_eq_true,decide_eq_true_eq,Option.isNone_iff_eq_none]at hσ
 obtain⟨h',hh'⟩: ∃h':Nat→Hd,h'=fun j=>match fJ σ j with|some i=>h i|none=>h j:=⟨_,rfl⟩
 have hun: ∀j i,fJ σ j=some i→(i,j)∈σ:=by
  intro j i
  clear hσ hh'
  induction σ with
  |nil=>intro e;cases e
  |cons p s ih=>
   obtain⟨x,y⟩:=p
   simp only[fJ]
   split
   ·rename_i e
    intro e2
    cases e2
    rw[e]
    exact List.mem_cons_self
   ·intro e2
    exact List.mem_cons_of_mem _ (ih e2)
 have key: ∀j,(∀p∈σ,p.2≠j)→h' (Lw.ren σ j)=h j:=by
  intro j hj
  subst hh'
  simp only[Lw.ren]
  cases hl:look j σ with
  |some t=>
   have hmem:=cX hl
   have h6:=(hσ _ hmem).2
   simp only[Option.getD_some]
   rw[h6]
  |none=>
   simp only[Option.getD_none]
   cases hu:fJ σ j with
   |none=>rfl
   |some i=>exact absurd rfl (hj _ (hun j i hu))
 have hsay: ∀i x,look i st.aO=some x→ ∀j,bU j x=true→ ∀p∈σ,p.2≠j:=by
  intro i x hx j hj p hp e
  subst e
  rw[iX (hσ p hp).1.1.2 hx]at hj
  cases hj
 have hsayO: ∀id o,look id st.aD=some o→ ∀j,o.bU j=true→ ∀p∈σ,p.2≠j:=by
  intro id o ho j hj p hp e
  subst e
  have hne:id≠p.2:=fun e=>by rw[e,(hσ p hp).1.2]at ho;cases ho
  rw[kE (hσ p hp).1.1.2 hne ho]at hj
  cases hj
 have hidn: ∀id o,look id st.aD=some o→ ∀p∈σ,p.2≠id:=by
  intro id o ho p hp e
  rw[←e,(hσ p hp).1.2]at ho
  cases ho
 have hlk: ∀{α β:Type} (f:Nat→Nat) (g:α→β) (l:List (Nat×α)) (j:Nat) (y:β),look j (l.map fun p=>(f p.1,g p.2))=some y→(∀i x,look i l=some x→ ∀i' x',(i',x')∈l→f i'=f i→i'=i)→ ∃i x,look i l=some x∧f i=j∧g x=y:=by
  intro α β f g l j y
  induction l with
  |nil=>intro hl;cases hl
  |cons p s ih=>
   obtain⟨i,x⟩:=p
   intro hl hinj
   simp only[List.map_cons,look]at hl
   split at hl
   ·rename_i e
    cases hl
    exact⟨i,x,qaD,e,rfl⟩
   ·rename_i e
    obtain⟨i2,x2,h1,h2,h3⟩:=ih hl (fun i3 x3 h3 i4 x4 h4 h5=>by
     by_cases h6:i=i3
     ·subst h6
      exact hinj i x qaD i4 x4 (List.mem_cons_of_mem _ h4) h5
     ·exact hinj i3 x3 (by simp[look,h6,h3]) i4 x4 (List.mem_cons_of_mem _ h4) h5)
    refine⟨i2,x2,?_,h2,h3⟩
    have:i≠i2:=fun h6=>e (by rw[h6];exact h2)
    simp[look,this,h1]
 have hmemlook: ∀{i':Nat} {x':O},(i',x')∈st.aD→ ∃o,look i' st.aD=some o:=by
  intro i' x' hm
  have: ∀l:List (Nat×O),(i',x')∈l→ ∃o,look i' l=some o:=by
   intro l
   induction l with
   |nil=>intro h;cases h
   |cons q s ih=>
    intro hq
    obtain⟨q1,q2⟩:=q
    simp only[look]
    split
    ·exact⟨_,rfl⟩
    ·rename_i e
     rcases List.mem_cons.1 hq with hq|hq
     ·cases hq;exact absurd rfl e
     ·exact ih hq
  exact this _ hm
 have hrinj: ∀i j,(∃o,look i st.aD=some o)→(∃o,look j st.aD=some o)→Lw.ren σ i=Lw.ren σ j→i=j:=by
  rintro i j ⟨oi,hi⟩ ⟨oj,hj⟩ e
  have h1:=hidn i oi hi
  have h2:=hidn j oj hj
  simp only[Lw.ren]at e
  cases hi2:look i σ with
  |some t=>
   rw[hi2]at e
   have hit:=(hσ _ (cX hi2)).2
   cases hj2:look j σ with
   |some u=>
    rw[hj2]at e
    have hju:=(hσ _ (cX hj2)).2
    simp only[Option.getD_some]at e
    subst e
    rw[hit]at hju
    exact Option.some.inj hju
   |none=>
    rw[hj2]at e
    simp only[Option.getD_some,Option.getD_none]at e
    exact absurd e (h2 _ (cX hi2))
  |none=>
   rw[hi2]at e
   cases hj2:look j σ with
   |some u=>
    rw[hj2]at e
    simp only[Option.getD_some,Option.getD_none]at e
    exact absurd e.symm (h1 _ (cX hj2))
   |none=>
    rw[hj2]at e
    simpa using e
 have hobj: ∀j o,look j (st.aD.map fun p=>(Lw.ren σ p.1,vO σ p.2))=some o→ ∃i o1,look i st.aD=some o1∧Lw.ren σ i=j∧vO σ o1=o:=by
  intro j o hj
  exact hlk (Lw.ren σ) (vO σ) st.aD j o hj fun i x hx i' x' hm e=>hrinj i' i (hmemlook hm) ⟨x,hx⟩ e
 have hm:=r.mem
 have hown':wB C (xW σ st) h':=by
  intro j o b hj hb
  obtain⟨i,o1,h1,rfl,rfl⟩:=hobj j o hj
  rw[key i (hidn i o1 h1)]at hb
  exact hown i o1 b h1 hb
 refine⟨h',⟨⟨hm.os,hm.tape,hm.output,hm.size,hm.block,hm.okb,fun j o hj=>?_,fun j o b hj hb=>?_,fun j j' o o' b hj hj' hne hb=>?_⟩,r.defers,r.nt,fun j hj=>?_,fun i x hx=>?_⟩,hown'⟩
 ·obtain⟨i,o1,h1,rfl,rfl⟩:=hobj j o hj
  exact((hm.obj i o1 h1).agree (h':=fun i=>h' (Lw.ren σ i)) (key i (hidn i o1 h1)) fun q hq=>key q (hsayO i o1 h1 q hq)).down
 ·have hge:=hown' j o b hj hb
  obtain⟨i,o1,h1,rfl,rfl⟩:=hobj j o hj
  rw[key i (hidn i o1 h1)]at hb
  obtain⟨h2,h3,h4⟩:=hm.blk i o1 b h1 hb
  exact⟨h2,h3,.inl hge⟩
 ·obtain⟨i,o1,h1,rfl,rfl⟩:=hobj j o hj
  obtain⟨i',o2,h2,rfl,rfl⟩:=hobj j' o' hj'
  rw[key i (hidn i o1 h1)]at hb
  rw[key i' (hidn i' o2 h2)]
  exact hm.apart i i' o1 o2 b h1 h2 (fun e=>hne (by rw[e])) hb
 ·subst hh'
  simp only
  cases hu:fJ σ j with
  |none=>exact r.pin j hj
  |some i=>
   have:=(hσ _ (hun j i hu)).1.1.1
   simp only at this
   omega
 ·obtain⟨i2,x2,h1,rfl,rfl⟩:=hlk (fun i=>i) (gJ σ) st.aO i x hx (fun _ _ _ _ _ _ e=>e)
  obtain⟨h2,v,h3,h4⟩:=r.slot i2 x2 h1
  exact⟨h2,v,h3,(h4.agree (h':=fun i=>h' (Lw.ren σ i)) fun q hq=>key q (hsay i2 x2 h1 q hq)).down⟩
end Go.Lw
