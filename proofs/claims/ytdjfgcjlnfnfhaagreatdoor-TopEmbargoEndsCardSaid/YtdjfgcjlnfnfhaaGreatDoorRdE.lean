/- A RECORD IS READ: all its lines. -/
import Derived.Test.YtdjfgcjlnfnfhaaGreatDoorDtE
import Derived.Test.YtdjfgcjlnfnfhaaGreatDoorLwEx
import Derived.Test.YtdjfgcjlnfnfhaaGreatDoorAdA
set_option linter.unusedSimpArgs false
set_option linter.unusedVariables false
namespace Go.Proofs.YtdjfgcjlnfnfhaaGreatDoor
open Go.Lw Go.RowKit
set_option maxRecDepth 100000
set_option maxHeartbeats 2000000
abbrev wOb (a b:Nat) (K:Bs):List (Nat×O):=[(a,.box 35 [.os b K.length]),(b,.own 5 1 (true,[.lit (.int .u8 0)]) (K.map aZ))]
theorem MZ (K a c:Bs) (h1:K.length≤10000000) (h2:a.length≤1000000) (h3:c.length≤1000000):bJ Tryz.prog 228 [.d (str a),.d (str c),.bp 100000 0] (wOb 100000 50001 K) (.d (.tup [])) (wOb 100000 50001 (K++(a++([58,32]++(c++[13,10]))))):=by
 refine cY Tryz.func228 rfl qC Tryz.ntmps228 _ rfl qE fun C hc=>?_
 repeat' (first|refine Wd ?_|(refine Wc ?_ ?_<;>intro hb<;>try simp at hb)|refine Wo ?_|fail)
 (refine aE [100000,50001] hc (aR rfl) qA qA qJ ?_)
 simp
theorem Gz:aJ Tryz.prog 229 [] (cE [[105,110,102,111],[114,101,113,117,101,115,116],[97,110,115,119,101,114],[114,101,118,105,115,105,116],[112,105,101,99,101]]):=by
 refine aW Tryz.func229 rfl qC Tryz.ntmps229 _ rfl qE fun C hc=>?_
 repeat' (first|refine Wd ?_|(refine Wc ?_ ?_<;>intro hb<;>try simp at hb)|fail)
 (refine Zl hc (hr:=?_))
 simp
theorem rH (K a c:Bs) (h1:K.length≤10000000) (h2:a.length≤1000000) (h3:c.length≤1000000):vS Tryz.prog 228 [.d (str a),.d (str c),.bp 100000 0] (wOb 100000 50001 K) (fun r=> ∃K':Bs,r=(.d (.tup []),wOb 100000 50001 K')∧K'.length=K.length+a.length+c.length+4):=
 ⟨_,⟨_,rfl,qH⟩,MZ K a c h1 h2 h3⟩
def kdL:List Bs:=[[105,110,102,111],[114,101,113,117,101,115,116],[97,110,115,119,101,114],[114,101,118,105,115,105,116],[112,105,101,99,101]]
theorem K7:aJ Tryz.prog 229 [] (.sl 5 fun i=>[str (kdL[i]?.getD [])]):=by
 have h:=Gz
 have e:cE [[105,110,102,111],[114,101,113,117,101,115,116],[97,110,115,119,101,114],[114,101,118,105,115,105,116],[112,105,101,99,101]]= .sl 5 fun i=>[str (kdL[i]?.getD [])]:=by
  unfold cE kdL
  congr 1
  funext i
  match i with
  |0|1|2|3|4=>rfl
  |n+5=>rfl
 rwa [e]at h
theorem PI (i:Nat):(kdL[i]?.getD []).length≤7:=by
 unfold kdL
 match i with
 |0|1|2|3|4=>decide
 |n+5=>exact Nat.zero_le _
theorem Cn (n:Nat) (g:Nat→UInt8) (hn:n≤1000000):aV Tryz.prog 232 [byF n g] (fun d=> ∃l:Bs,d=str l∧l.length=16):=by
 refine(MY ((List.range n).map g) QK).args (m:=[_]) rfl fun i e hi=>?_
 match i,hi with
 |0,hi=>
  cases hi
  refine⟨_,rfl,?_⟩
  rw[List.length_map,List.length_range]
  refine nJ (fun i hi=>rfl) fun i k d hi hk=>⟨d,?_,cJ.refl _⟩
  rw[←hk]
  simp[hi]
theorem PJ (r:Rc) (h:r.Ok):aV Tryz.prog 154 [.lit (.slice none 0 0),r.d] (fun d=> ∃(m:Nat) (f:Nat→List D),d= .sl m f∧m≤500000):=by
 obtain⟨kind,id,of,time,key,nh,ha,hb',nb,bl⟩:=r
 obtain⟨h1,h2,h3,h4,h5,⟨h6,h7⟩,h8⟩:=h
 simp only[Rc.d,Rc.row]at*
 have hK:=K7
 refine bI Tryz.func154 rfl qC Tryz.ntmps154 _ rfl qE ?_
 repeat' (first|refine Va ?_|(with_reducible refine aB (ht:=fun hb=>?_) (hf:=fun hb=>?_)<;>(try simp at hb))|refine Vn ?_|refine Vl (hG:=?_)|(refine Vm ([(100000,2),(50001,12)]) (hf:=rH [75,69,80,84,47,49,13,10] _ _ qK qL qL) (hk:=?_);rintro _ _ ⟨K,⟨⟩,hK1⟩;refine⟨_,_,qE,qA,qA,?_⟩)|(refine Vm ([(100000,2),(50001,12)]) (hf:=rH _ _ _ qL qL qL) (hk:=?_);rintro _ _ ⟨K,⟨⟩,hK1⟩;refine⟨_,_,qE,qA,qA,?_⟩)|fail)
 all_goals
  simp only[List.length_cons,List.length_nil]at*
  have hk2:=PI (kind.toNat-1)
  obtain⟨_,⟨K2,⟨⟩,hK2⟩,hM⟩:=rH K [107,105,110,100] (kdL[kind.toNat-1]?.getD []) qD qK qD
  refine aQ (by
   intro r C hc hh
   refine bA (aG [2,3,5] [2,3,12] qA qA) ?_
   (apply Xd 8 hc;(focus(refine Xm 0 hc (hk:=?_);refine Xp 2 hc (hk:=?_);refine Xa [1,3] (hx:=?_);refine⟨?_,?_⟩;(focus(refine Xc hc (hf:=hK) (hk:=?_);refine aI 3 [3,4,5,6,7] hc rfl qC rfl qA qF qE qA ?_;refine Xp 4 hc (hk:=?_);refine Xa [5] (hx:=?_);(focus(refine Xw hc (hk:=?_);refine aI 6 [6,7] hc rfl qC rfl qA qF qE qA ?_;refine Xa [7] (hx:=?_);(focus(refine Xs ([(100000,2),(50001,12)]) (hM) hc (hk:=?_);refine Xz (hk:=?_);exact Xk [2,3,5] [2,3,12]))))));(focus(refine Xw hc (hk:=?_);refine Xp 4 hc (hk:=?_);refine Xa [1] (hx:=?_);(focus(refine Xc hc (hf:=hK) (hk:=?_);refine Xa [5] (hx:=?_);(focus(refine Xw hc (hk:=?_);refine aI 6 [6,7] hc rfl qC rfl qA qF qE qA ?_;refine Xa [7] (hx:=?_);(focus(refine Xs ([(100000,2),(50001,12)]) (hM) hc (hk:=?_);refine Xz (hk:=?_);exact Xb [2,3,5] [2,3,12])))))))))))
   exact hh.get) ?_
  obtain⟨_,⟨dt,fd,rfl,hdt⟩,hD⟩:=Ge time
  have hI:=MJ (nb:Int) qD qD
  have hG:=Cn nb bl qD
  repeat' (first|refine Va ?_|(with_reducible refine aB (ht:=fun hb=>?_) (hf:=fun hb=>?_)<;>(try simp at hb))|refine Vn ?_|refine Vl (hG:=?_)|refine Vc (hf:=by exact hD) (h:=?_)|(refine Ve (hf:=hI) (hk:=?_);rintro _ ⟨it,rfl,hit⟩)|(refine Ve (hf:=hG) (hk:=?_);rintro _ ⟨dg,rfl,hdg⟩)|(refine Vm ([(100000,2),(50001,12)]) (hf:=rH _ _ _ qL qL qL) (hk:=?_);rintro _ _ ⟨K,⟨⟩,hK1⟩;refine⟨_,_,qE,qA,qA,?_⟩)|fail)
  refine dP [] [2,3,5,46,47,48] [2,3,12] (fun x:Nat×Bs=>[(48,.d (int x.1))]) (fun x=>[(2,.box 35 [.os 12 x.2.length]),(12,.own 5 1 (true,[.lit (.int .u8 0)]) (x.2.map aZ))]) (fun x=>x.1≤nh∧x.2.length≤10000+1100*x.1) (fun x=>nh-x.1) (0,K) ⟨?_,?_⟩ ?_
  ·simp
  ·simp only[List.length_cons,List.length_nil]at*
   omega
  rintro L hL ⟨j,K⟩ ⟨hj,hK3⟩ ih
  simp only at hj hK3 ih⊢
  by_cases hjn:j<nh
  ·obtain⟨h9,h10⟩:=h7 j hjn
   repeat' (first|refine Va ?_|(with_reducible refine aB (ht:=fun hb=>?_) (hf:=fun hb=>?_)<;>(try simp at hb))|refine Vn ?_|refine Vl (hG:=?_)|(refine Vm ([(100000,2),(50001,12)]) (hf:=rH _ _ _ qL qL qL) (hk:=?_);rintro _ _ ⟨K,⟨⟩,hK1⟩;refine⟨_,_,qE,qA,qA,?_⟩)|fail)
   all_goals try(exfalso;omega)
   exact Vk [2,3,5,46,47,48] [2,3,12] hL (ih (j+1,K) ⟨qI,qI⟩ qI)
  ·repeat' (first|refine Va ?_|(with_reducible refine aB (ht:=fun hb=>?_) (hf:=fun hb=>?_)<;>(try simp at hb))|refine Vn ?_|refine Vl (hG:=?_)|refine Vc (hf:=by exact hD) (h:=?_)|(refine Ve (hf:=hI) (hk:=?_);rintro _ ⟨it,rfl,hit⟩)|(refine Ve (hf:=hG) (hk:=?_);rintro _ ⟨dg,rfl,hdg⟩)|(refine Vm ([(100000,2),(50001,12)]) (hf:=rH _ _ _ qL qL qL) (hk:=?_);rintro _ _ ⟨K,⟨⟩,hK1⟩;refine⟨_,_,qE,qA,qA,?_⟩)|fail)
   all_goals try(exfalso;omega)
   simp only[List.length_cons,List.length_nil]at*
   refine aQ (by
    intro r C hc hh
    refine bA (aG [2,3] [2,3,12] qA qA) ?_
    (apply Xd 6 hc;(focus(refine Xp 2 hc (hk:=?_);refine aI 0 [0,1,4,5] hc rfl qC rfl qA qF qE qA ?_;refine Xa [1,3] (hx:=?_);refine⟨?_,?_⟩;(focus(refine Xw hc (hk:=?_);refine aI 3 [3,4,5] hc rfl qC rfl qA qF qE qA ?_;refine Xa [4] (hx:=?_);(focus(refine Xw hc (hk:=?_);refine Xa [5] (hx:=?_);(focus(refine Xw hc (hk:=?_);refine Xz (hk:=?_);exact Xk [2,3] [2,3,12]))))));(focus(refine Xw hc (hk:=?_);refine Xa [1] (hx:=?_);(focus(refine Xw hc (hk:=?_);refine Xa [4] (hx:=?_);(focus(refine Xw hc (hk:=?_);refine Xa [5] (hx:=?_);(focus(refine Xw hc (hk:=?_);refine Xz (hk:=?_);exact Xb [2,3] [2,3,12])))))))))))
    exact hh.get) ?_
   repeat' (first|refine Va ?_|(with_reducible refine aB (ht:=fun hb=>?_) (hf:=fun hb=>?_)<;>(try simp at hb))|refine Vn ?_|refine Vl (hG:=?_)|fail)
   exact⟨_,_,rfl,qD⟩
theorem xT (s:Bs) (hs:s.length≤1000000):aV Tryz.prog 194 [str s] (fun d=> ∃(t f:Int),d= .tup [.lit (.int .i64 t),.lit (.int .i64 f)]∧(f=0→0≤t∧t≤253402300799)):=by
 refine bI Tryz.func194 rfl qC Tryz.ntmps194 _ rfl qE ?_
 obtain⟨_,⟨t,ok,rfl,ht⟩,h⟩:=Iv s hs
 cases ok
 ·repeat' (first|refine Va ?_|(with_reducible refine aB (ht:=fun hb=>?_) (hf:=fun hb=>?_)<;>(try simp at hb))|refine Vb ?_|refine Vl (hG:=?_)|refine Vc (hf:=Qc) (h:=?_)|fail)
  all_goals exact⟨_,_,rfl,qE⟩
 ·repeat' (first|refine Va ?_|(with_reducible refine aB (ht:=fun hb=>?_) (hf:=fun hb=>?_)<;>(try simp at hb))|refine Vb ?_|refine Vl (hG:=?_)|refine Vc (hf:=Qc) (h:=?_)|fail)
  all_goals exact⟨_,_,rfl,fun _=>ht rfl⟩
def xU (n:Nat) (g:Nat→UInt8) (x:Rd) (fn:FuncId) (bt:TypeId) (k:Nat) (s:Bs) (Q:Bool→Rd→Prop):Prop:=
 vS Tryz.prog fn [.d (str s),.bp 100002 0] (rdO n g x++[(100002,.box bt [.bp 100000 k])]) (fun r=> ∃(b:Bool) (y:Rd),r=(.d (tru b),rdO n g y++[(100002,.box bt [.bp 100000 k])])∧y.pos=x.pos∧Q b y)
theorem SU (n:Nat) (g:Nat→UInt8) (x:Rd) (s:Bs) (hs:s.length≤1000000):xU n g x 336 417 3 s (fun b y=>b=true∧y={x with id:=s}):=by
 refine vT Tryz.func336 rfl qC Tryz.ntmps336 _ rfl qE ?_
 repeat' (first|refine Va ?_|(with_reducible refine aB (ht:=fun hb=>?_) (hf:=fun hb=>?_)<;>(try simp at hb))|refine Vb ?_|refine Vl (hG:=?_)|fail)
 all_goals refine Vr [100000,50001,100002] (hG:=?_)
 exact⟨true,{x with id:=s},rfl,rfl,rfl,rfl⟩
theorem PK (n:Nat) (g:Nat→UInt8) (x:Rd) (s:Bs) (hs:s.length≤1000000):xU n g x 336 417 6 s (fun b y=>b=true∧y={x with key:=s}):=by
 refine vT Tryz.func336 rfl qC Tryz.ntmps336 _ rfl qE ?_
 repeat' (first|refine Va ?_|(with_reducible refine aB (ht:=fun hb=>?_) (hf:=fun hb=>?_)<;>(try simp at hb))|refine Vb ?_|refine Vl (hG:=?_)|fail)
 all_goals refine Vr [100000,50001,100002] (hG:=?_)
 exact⟨true,{x with key:=s},rfl,rfl,rfl,rfl⟩
theorem SV (n:Nat) (g:Nat→UInt8) (x:Rd) (s:Bs) (hs:s.length≤1000000):xU n g x 340 383 0 s (fun b y=>y={x with of:=s}):=by
 refine vT Tryz.func340 rfl qC Tryz.ntmps340 _ rfl qE ?_
 repeat' (first|refine Va ?_|(with_reducible refine aB (ht:=fun hb=>?_) (hf:=fun hb=>?_)<;>(try simp at hb))|refine Vb ?_|refine Vl (hG:=?_)|fail)
 all_goals refine Vr [100000,50001,100002] (hG:=?_)
 exact⟨_,{x with of:=s},rfl,rfl,rfl⟩
theorem Iw (s:Bs) (hs:s.length≤1000000):aV Tryz.prog 346 [str s] (IsB fun _=>True):=by
 refine bI Tryz.func346 rfl qC Tryz.ntmps346 _ rfl qE ?_
 repeat' (first|refine Va ?_|(with_reducible refine aB (ht:=fun hb=>?_) (hf:=fun hb=>?_)<;>(try simp at hb))|refine Vb ?_|refine Vl (hG:=?_)|refine Vc (hf:=by exact jI s _ qD qE qK) (h:=?_)|fail)
 exact⟨_,rfl,trivial⟩
theorem PL (n:Nat) (g:Nat→UInt8) (x:Rd) (s:Bs) (hs:s.length≤1000000):xU n g x 345 383 0 s (fun b y=>y={x with dig:=s}):=by
 refine vT Tryz.func345 rfl qC Tryz.ntmps345 _ rfl qE ?_
 repeat' (first|refine Va ?_|(with_reducible refine aB (ht:=fun hb=>?_) (hf:=fun hb=>?_)<;>(try simp at hb))|refine Vb ?_|refine Vl (hG:=?_)|(refine Ve (hf:=Iw s hs) (hk:=?_);rintro _ ⟨b,rfl,_⟩)|fail)
 all_goals refine Vr [100000,50001,100002] (hG:=?_)
 exact⟨_,{x with dig:=s},rfl,rfl,rfl⟩
theorem PM (n:Nat) (g:Nat→UInt8) (x:Rd) (s:Bs) (hs:s.length≤1000000):xU n g x 344 383 0 s (fun b y=> ∃m:Nat,(b=true→m<1000000000)∧(b=false→y=x)∧(b=true→y={x with len:=m})):=by
 refine vT Tryz.func344 rfl qC Tryz.ntmps344 _ rfl qE ?_
 obtain⟨_,⟨b,rfl,ht⟩,h⟩:=tY s qD 9 qD
 cases b
 ·repeat' (first|refine Va ?_|(with_reducible refine aB (ht:=fun hb=>?_) (hf:=fun hb=>?_)<;>(try simp at hb))|refine Vn ?_|refine Vl (hG:=?_)|refine Vc (hf:=Qc) (h:=?_)|fail)
  all_goals refine Vr [100000,50001,100002] (hG:=?_)
  exact⟨false,x,rfl,rfl,0,qE,fun _=>rfl,qE⟩
 ·obtain⟨h1,h2,h3⟩:=ht rfl
  obtain⟨_,⟨m,rfl,hm⟩,ha⟩:=Aw s h1 9 h2 qD ((fY _).1 h3)
  have hm9:m<1000000000:=hm
  repeat' (first|refine Va ?_|(with_reducible refine aB (ht:=fun hb=>?_) (hf:=fun hb=>?_)<;>(try simp at hb))|refine Vn ?_|refine Vl (hG:=?_)|refine Vc (hf:=Qc) (h:=?_)|fail)
  all_goals
   refine aQ (by
    intro r C hc hh
    refine bA (aG [0,1,3] [100000,50001,100002] qA qA) ?_
    (apply Xd 9 hc;(focus(refine Xm 1 hc (hk:=?_);refine Xa [0,2] (hx:=?_);refine⟨?_,?_⟩;(focus(refine Xw hc (hk:=?_);refine Xa [2] (hx:=?_);(focus(refine Xc hc (hf:=ha) (hk:=?_);refine Xm 3 hc (hk:=?_);refine Xp 4 hc (hk:=?_);refine Xp 5 hc (hk:=?_);refine Xp 6 hc (hk:=?_);refine Xp 7 hc (hk:=?_);refine Xa [8] (hx:=?_);(focus(refine Xw hc (hk:=?_);refine Xz (hk:=?_);exact Xk [0,1,3] [100000,50001,100002]))))));(focus(refine Xc hc (hf:=ha) (hk:=?_);refine Xm 3 hc (hk:=?_);refine Xp 4 hc (hk:=?_);refine Xp 5 hc (hk:=?_);refine aI 0 [0,6,7,8] hc rfl qC rfl qA qF qE qA ?_;refine Xp 6 hc (hk:=?_);refine Xp 7 hc (hk:=?_);refine Xa [8] (hx:=?_);(focus(refine Xw hc (hk:=?_);refine Xz (hk:=?_);exact Xb [0,1,3] [100000,50001,100002])))))))
    exact hh.get) ?_
   repeat' (first|refine Va ?_|(with_reducible refine aB (ht:=fun hb=>?_) (hf:=fun hb=>?_)<;>(try simp at hb))|refine Vn ?_|refine Vl (hG:=?_)|refine Vc (hf:=Qc) (h:=?_)|fail)
   all_goals refine Vr [100000,50001,100002] (hG:=?_)
   all_goals exact⟨true,{x with len:=m},rfl,rfl,m,fun _=>hm,qE,fun _=>rfl⟩
theorem M2 (n:Nat) (g:Nat→UInt8) (x:Rd) (s:Bs) (hs:s.length≤1000000):xU n g x 341 383 0 s (fun b y=> ∃k:Int,y={x with kind:=k}∧k≤5∧(b=true→0<k)):=by
 refine vT Tryz.func341 rfl qC Tryz.ntmps341 _ rfl qE ?_
 have hK:=Gz
 have hI:=rF [[105,110,102,111],[114,101,113,117,101,115,116],[97,110,115,119,101,114],[114,101,118,105,115,105,116],[112,105,101,99,101]] s qK
 obtain⟨k1,k2⟩:=DA [[105,110,102,111],[114,101,113,117,101,115,116],[97,110,115,119,101,114],[114,101,118,105,115,105,116],[112,105,101,99,101]] s 0
 simp only[List.length_cons,List.length_nil]at k2
 generalize tT _ s 0=k at*
 repeat' (first|refine Va ?_|(with_reducible refine aB (ht:=fun hb=>?_) (hf:=fun hb=>?_)<;>(try simp at hb))|refine Vn ?_|refine Vl (hG:=?_)|fail)
 all_goals
  refine aQ (by
   intro r C hc hh
   refine bA (aG [0,1,3] [100000,50001,100002] qA qA) ?_
   (apply Xd 9 hc;(focus(refine Xm 2 hc (hk:=?_);refine Xa [0,1] (hx:=?_);refine⟨?_,?_⟩;(focus(refine Xw hc (hk:=?_);refine Xa [1] (hx:=?_);(focus(refine Xc hc (hf:=hK) (hk:=?_);refine Xa [3] (hx:=?_);(focus(refine Xc hc (hf:=hI) (hk:=?_);refine Xp 4 hc (hk:=?_);refine Xp 5 hc (hk:=?_);refine Xp 6 hc (hk:=?_);refine Xp 7 hc (hk:=?_);refine Xa [8] (hx:=?_);(focus(refine Xw hc (hk:=?_);refine Xz (hk:=?_);exact Xk [0,1,3] [100000,50001,100002]))))))));(focus(refine Xc hc (hf:=hK) (hk:=?_);refine Xa [0,3] (hx:=?_);refine⟨?_,?_⟩;(focus(refine Xw hc (hk:=?_);refine Xa [3] (hx:=?_);(focus(refine Xc hc (hf:=hI) (hk:=?_);refine Xp 4 hc (hk:=?_);refine Xp 5 hc (hk:=?_);refine Xp 6 hc (hk:=?_);refine Xp 7 hc (hk:=?_);refine Xa [8] (hx:=?_);(focus(refine Xw hc (hk:=?_);refine Xz (hk:=?_);exact Xb [0,1,3] [100000,50001,100002]))))));(focus(refine Xc hc (hf:=hI) (hk:=?_);refine Xp 4 hc (hk:=?_);refine aI 0 [0,5,6,7,8] hc rfl qC rfl qA qF qE qA ?_;refine Xp 5 hc (hk:=?_);refine Xp 6 hc (hk:=?_);refine Xp 7 hc (hk:=?_);refine Xa [8] (hx:=?_);(focus(refine Xw hc (hk:=?_);refine Xz (hk:=?_);exact Xb [0,1,3] [100000,50001,100002])))))))))
   exact hh.get) ?_
  repeat' (first|refine Va ?_|(with_reducible refine aB (ht:=fun hb=>?_) (hf:=fun hb=>?_)<;>(try simp at hb))|refine Vn ?_|refine Vl (hG:=?_)|fail)
  all_goals refine Vr [100000,50001,100002] (hG:=?_)
  all_goals exact⟨decide (0<k+1),{x with kind:=k+1},rfl,rfl,k+1,rfl,qD,of_decide_eq_true⟩
theorem M3 (n:Nat) (g:Nat→UInt8) (x:Rd) (s:Bs) (hs:s.length≤1000000):xU n g x 342 383 0 s (fun b y=> ∃t:Int,y={x with time:=t}∧(b=true→0≤t∧t≤253402300799)):=by
 refine vT Tryz.func342 rfl qC Tryz.ntmps342 _ rfl qE ?_
 obtain⟨_,⟨t,f,rfl,ht⟩,h⟩:=xT s hs
 repeat' (first|refine Va ?_|(with_reducible refine aB (ht:=fun hb=>?_) (hf:=fun hb=>?_)<;>(try simp at hb))|refine Vb ?_|refine Vl (hG:=?_)|refine Vc (hf:=Qc) (h:=?_)|fail)
 all_goals refine Vr [100000,50001,100002] (hG:=?_)
 all_goals exact⟨f==0,{x with time:=t},rfl,rfl,t,rfl,fun hb=>ht Qm⟩
theorem M4 (n:Nat) (g:Nat→UInt8) (x:Rd) (hn:n≤1000000) (hx:x.pos≤n) (hK0:x.K.length≤x.pos) (hK1: ∀e∈x.K,e.1.length≤1000000∧e.2.length≤1000000):vS Tryz.prog 343 [.bp 100000 0] (rdO n g x) (fun r=> ∃(b:Bool) (m:Nat) (K:List (Bs×Bs)),r=(.d (tru b),rdO n g {x with pos:=m,K:=K})∧x.pos≤m∧m≤n∧K.length≤m∧ ∀e∈K,e.1.length≤1000000∧e.2.length≤1000000):=by
 refine vT Tryz.func343 rfl qC Tryz.ntmps343 _ rfl qE ?_
 repeat' (first|refine Va ?_|(with_reducible refine aB (ht:=fun hb=>?_) (hf:=fun hb=>?_)<;>(try simp at hb))|refine Vn ?_|refine Vl (hG:=?_)|fail)
 refine dP [] [0] [100000,50001] (fun _:Nat×List (Bs×Bs)=>[]) (fun z=>rdO n g {x with pos:=z.1,K:=z.2}) (fun z=>x.pos≤z.1∧z.1≤n∧z.2.length≤z.1∧ ∀e∈z.2,e.1.length≤1000000∧e.2.length≤1000000) (fun z=>n-z.1) (x.pos,x.K) ⟨Nat.le_refl _,hx,hK0,hK1⟩ ?_
 rintro L hL ⟨m,K⟩ ⟨h1,h2,h3,h4⟩ ih
 simp only at h1 h2 h3 h4 ih⊢
 repeat' (first|refine Va ?_|(with_reducible refine aB (ht:=fun hb=>?_) (hf:=fun hb=>?_)<;>(try simp at hb))|refine Vn ?_|refine Vl (hG:=?_)|(refine Vm ([(100000,100000),(50001,50001)]) (hf:=Sc n g {x with pos:=m,K:=K} _ hn h2 qK) (hk:=?_);rintro _ _ ⟨b,⟨⟩⟩;refine⟨_,_,qE,qA,qA,?_⟩)|fail)
 ·obtain⟨_,⟨s,m2,t,rfl,hs,e1,e2,e3⟩,hl⟩:=Ax n g m h2 hn
  refine aQ (by
   intro r C hc hh
   refine bA (aG [0] [100000,50001] qA qA) ?_
   (apply Xd 16 hc;(focus(refine Xm 0 hc (hk:=?_);refine Xp 1 hc (hk:=?_);refine Xp 2 hc (hk:=?_);refine Xm 4 hc (hk:=?_);refine Xp 5 hc (hk:=?_);refine Xp 6 hc (hk:=?_);refine aI 3 [3,8,9,10,11,12,13,14,15] hc rfl qC rfl qA qF qE qA ?_;refine aI 7 [7,8,9,10,11,12,13,14,15] hc rfl qC rfl qA qF qE qA ?_;refine Xa [8] (hx:=?_);(focus(refine Xc hc (hf:=hl) (hk:=?_);refine Xm 9 hc (hk:=?_);refine Xp 10 hc (hk:=?_);refine Xp 11 hc (hk:=?_);refine Xp 12 hc (hk:=?_);refine Xm 13 hc (hk:=?_);refine Xm 14 hc (hk:=?_);refine Xm 15 hc (hk:=?_);refine Xz (hk:=?_);exact Xk [0,3,4,5] [100000,50001])))))
   exact hh.get) ?_
  repeat' (first|refine Va ?_|(with_reducible refine aB (ht:=fun hb=>?_) (hf:=fun hb=>?_)<;>(try simp at hb))|refine Vn ?_|refine Vl (hG:=?_)|(refine Ve (hf:=Gx s hs) (hk:=?_);rintro _ ⟨u,v,ok,rfl,hu,hv⟩)|fail)
  ·refine Vr [100000,50001] (hG:=?_)
   exact⟨false,m,K,rfl,qD,qD,qD,h4⟩
  ·have e4:=e3 (by simp_all)
   refine aQ (by
    intro r C hc hh
    refine bA (aG [0,4,6] [6,100000,50001] qA qA) ?_
    (apply Xd 18 hc;(focus(refine Xm 0 hc (hk:=?_);refine Xm 1 hc (hk:=?_);refine Xm 2 hc (hk:=?_);refine Xp 3 hc (hk:=?_);refine Xp 4 hc (hk:=?_);refine Xp 5 hc (hk:=?_);refine Xm 10 hc (hk:=?_);refine aI 7 [7,8,9,11,12,13,14,15,16,17] hc rfl qC rfl qA qF qE qA ?_;refine Xa [6,8] (hx:=?_);refine⟨?_,?_⟩;(focus(refine Xw hc (hk:=?_);refine Xa [8] (hx:=?_);(focus(refine Xw hc (hk:=?_);refine Xa [9] (hx:=?_);(focus(refine Xw hc (hk:=?_);refine Xp 11 hc (hk:=?_);refine Xp 12 hc (hk:=?_);refine Xp 13 hc (hk:=?_);refine Xa [14] (hx:=?_);(focus(refine Xw hc (hk:=?_);refine Xp 15 hc (hk:=?_);refine Xp 16 hc (hk:=?_);refine Xa [17] (hx:=?_);(focus(refine Xw hc (hk:=?_);refine Xz (hk:=?_);exact Xk [0,4] [100000,50001]))))))))));(focus(refine Xw hc (hk:=?_);refine aI 6 [6,9,11,12,13,14,15,16,17] hc rfl qC rfl qA qF qE qA ?_;refine Xa [9] (hx:=?_);(focus(refine Xw hc (hk:=?_);refine Xp 11 hc (hk:=?_);refine Xp 12 hc (hk:=?_);refine Xp 13 hc (hk:=?_);refine Xa [14] (hx:=?_);(focus(refine Xw hc (hk:=?_);refine Xp 15 hc (hk:=?_);refine Xp 16 hc (hk:=?_);refine Xa [17] (hx:=?_);(focus(refine Xw hc (hk:=?_);refine Xz (hk:=?_);exact Xb [0,4] [100000,50001])))))))))))
    exact hh.get) ?_
   repeat' (first|refine Va ?_|(with_reducible refine aB (ht:=fun hb=>?_) (hf:=fun hb=>?_)<;>(try simp at hb))|refine Vn ?_|refine Vl (hG:=?_)|fail)
   exact Vk [0] [100000,50001] hL (ih (m2,K++[(u,v)]) ⟨qI,qI,qH,fun e he=>by
    rcases List.mem_append.1 he with he|he
    ·exact h4 e he
    ·simp at he
     subst he
     exact⟨hu,hv⟩⟩ qI) (he:=by simp[iU])
 ·refine Vr [100000,50001] (hG:=?_)
  exact⟨true,m,K,rfl,qD,qD,qD,h4⟩
theorem Ac (n:Nat) (g:Nat→UInt8) (x:Rd) (k:Nat):vS Tryz.prog 335 [.bp 100000 k] (rdO n g x) (fun r=>r=(.eR (.func 336) [.bp 1 0],rdO n g x++[(1,.box 417 [.bp 100000 k])])):=by
 refine vT Tryz.func335 rfl qC Tryz.ntmps335 _ rfl qE ?_
 repeat' (first|refine Va ?_|(with_reducible refine aB (ht:=fun hb=>?_) (hf:=fun hb=>?_)<;>(try simp at hb))|refine Vb ?_|refine Vl (hG:=?_)|fail)
 all_goals exact Vr [100000,50001,1] (hG:=rfl)
theorem a6 {C:Ctx} {P:Program} {nt:Nat} {ops:Array Oper} {i:Nat} {o:Oper} {st:St} {K:St→Prop} (res:D) (hc:bB C P nt) (hi:ops[i]?=some o) (hw:aA (gE ops o st) false) (hd:cV nt o.dst=true) (hk:K (st.put o.dst (gI o false (.d res)))):mJ C ops i st K:=by
 obtain⟨rfl,rfl,hok⟩:=hc
 intro a w ⟨ok,h,r⟩ Q K' hQ
 unfold wpOp
 rw[hi]
 simp only
 rw[bV r hw]
 rw[if_neg qE]
 exact hQ _ _ _ hk ⟨ok,h,r.put (bG hd) (fF hw rfl)⟩
structure uD (n:Nat) (x:Rd):Prop where
 pos:x.pos≤n
 id:x.id.length≤1000000
 of:x.of.length≤1000000
 key:x.key.length≤1000000
 k1:x.K.length≤x.pos
 k2: ∀e∈x.K,e.1.length≤1000000∧e.2.length≤1000000
 len:0≤x.len∧x.len<1000000000
theorem nO (n:Nat) (g:Nat→UInt8) (x:Rd) (w:Bs) (hn:n≤1000000) (hx:uD n x) (hw:w.length≤100) (fn:FuncId) (bt:TypeId) (k:Nat) (Q:Bs→Bool→Rd→Prop) (hf: ∀s:Bs,s.length≤1000000→xU n g x fn bt k s (Q s))
 (hq: ∀s z,s.length≤1000000→Q s true z→uD n {z with pos:=x.pos}):
 vS Tryz.prog 338 [.bp 100000 0,.d (str w),.eR (.func fn) [.bp 100002 0]] (rdO n g x++[(100002,.box bt [.bp 100000 k])]) (fun r=> ∃(b:Bool) (y:Rd),r=(.d (tru b),rdO n g y++[(100002,.box bt [.bp 100000 k])])∧(b=true→uD n y∧x.pos<y.pos)):=by
 obtain⟨r,⟨b,y,rfl,h1,h2⟩,h⟩:=PG n g x w hn hx.pos hw fn bt k Q hf
 refine⟨_,⟨b,y,rfl,fun hb=>?_⟩,h⟩
 obtain⟨h3,h4,s,z,hs,hy,hz⟩:=h1 hb
 have F:=hq s z hs hz
 generalize y.pos=m at*
 subst hy
 exact⟨⟨h4,F.id,F.of,F.key,by have:=F.k1;simp only at this⊢;omega,F.k2,F.len⟩,h3⟩
set_option maxHeartbeats 8000000
theorem M5 (n:Nat) (g:Nat→UInt8) (x:Rd) (hn:n≤1000000) (hx:uD n x):vS Tryz.prog 297 [.bp 100000 0] (rdO n g x) (fun r=> ∃(b:Bool) (y:Rd),r=(.d (tru b),rdO n g y)∧(b=true→uD n y∧x.pos≤y.pos)):=by
 refine vT Tryz.func297 rfl qC Tryz.ntmps297 _ rfl qE ?_
 obtain⟨_,⟨b1,m1,rfl,e1,e2,e3⟩,a1⟩:=JO n g x [75,69,80,84,47,49] hn hx.pos
 repeat' (first|refine Va ?_|(with_reducible refine aB (ht:=fun hb=>?_) (hf:=fun hb=>?_)<;>(try simp at hb))|refine Vn ?_|refine Vl (hG:=?_)|fail)
 cases b1
 ·refine aQ (by
   intro r C hc hh
   refine bA (aG [1,2,3] [1,100000,50001] qA qA) ?_
   (apply Xd 14 hc;(focus(refine aI 0 [0,1,2,3,4,5,6,7,8,9,10,11,12,13] hc rfl qC rfl qA qF qE qA ?_;refine Xa [1] (hx:=?_);(focus(refine Xs ([(100000,100000),(50001,50001)]) (a1) hc (hk:=?_);refine Xp 2 hc (hk:=?_);refine Xm 3 hc (hk:=?_);refine Xg 5 hc (hk:=?_);refine Xa [4,6] (hx:=?_);refine⟨?_,?_⟩;(focus(refine Xw hc (hk:=?_);refine Xa [6] (hx:=?_);(focus(refine Xw hc (hk:=?_);refine Xg 7 hc (hk:=?_);refine Xg 8 hc (hk:=?_);refine Xg 9 hc (hk:=?_);refine Xa [10] (hx:=?_);(focus(refine a6 (int 0) hc rfl qA qE ?_;refine Xa [11] (hx:=?_);(focus(refine a6 (tru false) hc rfl qA qE ?_;refine Xg 12 hc (hk:=?_);refine Xp 13 hc (hk:=?_);refine Xz (hk:=?_);exact Xk [1,2,3,17] [1,100000,50001]))))))));(focus(refine Xw hc (hk:=?_);refine Xg 7 hc (hk:=?_);refine Xg 8 hc (hk:=?_);refine Xg 9 hc (hk:=?_);refine Xa [4,10] (hx:=?_);refine⟨?_,?_⟩;(focus(refine Xw hc (hk:=?_);refine Xa [10] (hx:=?_);(focus(refine a6 (int 0) hc rfl qA qE ?_;refine Xa [11] (hx:=?_);(focus(refine a6 (tru false) hc rfl qA qE ?_;refine Xg 12 hc (hk:=?_);refine Xp 13 hc (hk:=?_);refine Xz (hk:=?_);exact Xb [1,2,3,17] [1,100000,50001]))))));(focus(refine a6 (int 0) hc rfl qA qE ?_;refine Xa [4] (hx:=?_);(focus(refine Xw hc (hk:=?_);refine Xa [11] (hx:=?_);(focus(refine a6 (tru false) hc rfl qA qE ?_;refine Xg 12 hc (hk:=?_);refine Xp 13 hc (hk:=?_);refine Xz (hk:=?_);exact Xb [1,2,3,17] [1,100000,50001])))))))))))))
   exact hh.get) ?_
  repeat' (first|refine Va ?_|(with_reducible refine aB (ht:=fun hb=>?_) (hf:=fun hb=>?_)<;>(try simp at hb))|refine Vn ?_|refine Vl (hG:=?_)|fail)
  refine Vr [100000,50001] (hG:=?_)
  exact⟨false,{x with pos:=m1},rfl,qE⟩
 obtain⟨x1,hx1⟩: ∃x1:Rd,x1={x with pos:=m1}:=⟨_,rfl⟩
 have E1:uD n x1:=by subst hx1;exact⟨e2,hx.id,hx.of,hx.key,by have:=hx.k1;simp only;omega,hx.k2,hx.len⟩
 have D1:x.pos≤x1.pos:=by subst hx1;exact e1
 rw[←hx1]at a1
 obtain⟨_,rfl,a2⟩:=Ac n g x1 3
 obtain⟨_,⟨b2,x2,rfl,f2⟩,a3⟩:=nO n g x1 [105,100] hn E1 qK 336 417 3 (fun s b y=>b=true∧y={x1 with id:=s}) (fun s hs=>SU n g x1 s hs) (by rintro s _ hs ⟨_,rfl⟩;exact⟨E1.pos,hs,E1.of,E1.key,E1.k1,E1.k2,E1.len⟩)
 refine aQ (by
  intro r C hc hh
  refine bA (aG [1,2,3] [1,100000,50001] qA qA) ?_
  (apply Xd 14 hc;(focus(refine aI 0 [0,1,2,3,4,5,6,7,8,9,10,11,12,13] hc rfl qC rfl qA qF qE qA ?_;refine Xa [1] (hx:=?_);(focus(refine Xs ([(100000,100000),(50001,50001)]) (a1) hc (hk:=?q20);refine Xp 2 hc (hk:=?nq20);refine Xm 3 hc (hk:=?_);refine Xg 5 hc (hk:=?_);refine Xa [4,6] (hx:=?_);refine⟨?_,?_⟩;(focus(refine Xw hc (hk:=?q21);refine Xa [6] (hx:=?nq21);(focus(refine Xw hc (hk:=?q22);refine Xg 7 hc (hk:=?nq22);refine Xg 8 hc (hk:=?_);refine Xg 9 hc (hk:=?_);refine Xa [10] (hx:=?_);(focus(refine Xs ([(100000,100000),(50001,50001),(1,14)]) (a2) hc (hk:=?q23);refine Xa [11] (hx:=?nq23);(focus(refine Xs ([(100000,100000),(50001,50001),(100002,14)]) (a3) hc (hk:=?q24);refine Xg 12 hc (hk:=?nq24);refine Xp 13 hc (hk:=?_);refine Xz (hk:=?_);exact Xk [1,2,3,17] [1,100000,50001]))))))));(focus(refine Xw hc (hk:=?q25);refine Xg 7 hc (hk:=?nq25);refine Xg 8 hc (hk:=?_);refine Xg 9 hc (hk:=?_);refine Xa [4,10] (hx:=?_);refine⟨?_,?_⟩;(focus(refine Xw hc (hk:=?q26);refine Xa [10] (hx:=?nq26);(focus(refine Xs ([(100000,100000),(50001,50001),(1,14)]) (a2) hc (hk:=?_);exact Xq ?q23))));(focus(refine Xs ([(100000,100000),(50001,50001),(1,14)]) (a2) hc (hk:=?q27);refine Xa [4] (hx:=?nq27);(focus(refine Xw hc (hk:=?_);exact Xq ?q23)))))))))))
  exact hh.get) ?_
 cases b2
 ·repeat' (first|refine Va ?_|(with_reducible refine aB (ht:=fun hb=>?_) (hf:=fun hb=>?_)<;>(try simp at hb))|refine Vn ?_|refine Vl (hG:=?_)|fail)
  refine Vr [100000,50001] (hG:=?_)
  exact⟨false,x2,rfl,qE⟩
 obtain⟨E2,D2⟩:=f2 rfl
 repeat' (first|refine Va ?_|(with_reducible refine aB (ht:=fun hb=>?_) (hf:=fun hb=>?_)<;>(try simp at hb))|refine Vn ?_|refine Vl (hG:=?_)|fail)
 obtain⟨_,⟨b3,⟨⟩⟩,a4⟩:=Sc n g x2 [111,102] hn E2.pos qK
 obtain⟨_,⟨b4,x4,rfl,f4⟩,a5⟩:=nO n g x2 [111,102] hn E2 qK 340 383 0 (fun s b y=>y={x2 with of:=s}) (fun s hs=>SV n g x2 s hs) (by rintro s _ hs rfl;exact⟨E2.pos,E2.id,hs,E2.key,E2.k1,E2.k2,E2.len⟩)
 obtain⟨z0,bad,f0,hz⟩: ∃(z0:Rd) (bad:Bool),(bad=false→uD n z0∧x.pos≤z0.pos)∧((b3=false∧x2=z0∧bad=false)∨(b3=true∧x4=z0∧bad= !b4)):=by
  cases b3
  ·exact⟨x2,false,fun _=>⟨E2,qD⟩,.inl ⟨rfl,rfl,rfl⟩⟩
  ·refine⟨x4,!b4,fun h=>?_,.inr ⟨rfl,rfl,rfl⟩⟩
   obtain⟨E4,D4⟩:=f4 q8
   exact⟨E4,qD⟩
 refine aQ (by
  intro r C hc hh
  have hz':=hz
  rcases hz'.symm with⟨k1,k2,k3⟩|⟨k1,k2,k3⟩
  ·rw[k1]at a4
   repeat' (first|refine e9 ?_|((first|refine aF ([(100000,100000),(50001,50001)]) (a4) hc qA qA qA qA qA rfl qA qA rfl qE qE qA qA ?_|fail))|((first|refine aF ([(100000,100000),(50001,50001),(100002,1)]) (a5) hc qA qA qA qA qA rfl qA qA rfl qE qE qA qA ?_|fail))|refine Wm ?_|fail)
   rw[k2,←k3]
   refine bA (aG [1,2,3,25] [1,100000,50001] qA qA) ?_
   exact hh.get
  ·rw[k1]at a4
   repeat' (first|refine e9 ?_|((first|refine aF ([(100000,100000),(50001,50001)]) (a4) hc qA qA qA qA qA rfl qA qA rfl qE qE qA qA ?_|fail))|refine iM hc qA qE ?_|refine Wm ?_|fail)
   rw[k2]
   exact bA (aC [1,2,3,25] [1,100000,50001] qA qA (by simp[k3])) hh.get) ?_
 refine aB (t:=bad) (ht:=fun hb=>?_) (hf:=fun hb=>?_)
 ·repeat' (first|refine Va ?_|(with_reducible refine aB (ht:=fun hb=>?_) (hf:=fun hb=>?_)<;>(try simp at hb))|refine Vn ?_|refine Vl (hG:=?_)|fail)
  refine Vr [100000,50001] (hG:=?_)
  exact⟨false,z0,rfl,qE⟩
 obtain⟨F0,P0⟩:=f0 hb
 repeat' (first|refine Va ?_|(with_reducible refine aB (ht:=fun hb=>?_) (hf:=fun hb=>?_)<;>(try simp at hb))|refine Vn ?_|refine Vl (hG:=?_)|fail)
 obtain⟨_,⟨c1,z1,rfl,q1⟩,g1⟩:=nO n g z0 [107,105,110,100] hn F0 qK 341 383 0 (fun s b y=> ∃k:Int,y={z0 with kind:=k}∧k≤5∧(b=true→0<k)) (fun s hs=>M2 n g z0 s hs) (by rintro s _ hs ⟨k,rfl,_⟩;exact⟨F0.pos,F0.id,F0.of,F0.key,F0.k1,F0.k2,F0.len⟩)
 cases c1
 ·
  refine aQ (by
   intro r C hc hh
   refine bA (aG [1,2,3] [1,100000,50001] qA qA) ?_
   (apply Xd 37 hc;(focus(refine Xa [0,1] (hx:=?_);refine⟨?_,?_⟩;(focus(refine Xw hc (hk:=?qb60);refine Xa [1] (hx:=?nqb60);(focus(refine Xw hc (hk:=?qb61);refine Xa [2] (hx:=?nqb61);(focus(refine Xs ([(100000,100000),(50001,50001),(100002,1)]) (g1) hc (hk:=?qb62);refine Xm 3 hc (hk:=?nqb62);refine Xa [4,5] (hx:=?_);refine⟨?_,?_⟩;(focus(refine Xw hc (hk:=?qb63);refine Xa [5] (hx:=?nqb63);(focus(refine Xw hc (hk:=?qb64);refine Xa [6] (hx:=?nqb64);(focus(refine a6 (tru false) hc rfl qA qE ?qb65;refine Xp 7 hc (hk:=?nqb65);refine Xm 8 hc (hk:=?_);refine Xg 10 hc (hk:=?_);refine Xa [9,11] (hx:=?_);refine⟨?_,?_⟩;(focus(refine Xw hc (hk:=?qb66);refine Xa [11] (hx:=?nqb66);(focus(refine Xw hc (hk:=?qb67);refine Xg 12 hc (hk:=?nqb67);refine Xg 13 hc (hk:=?_);refine Xg 14 hc (hk:=?_);refine Xa [15] (hx:=?_);(focus(refine a6 (int 0) hc rfl qA qE ?qb68;refine Xa [16] (hx:=?nqb68);(focus(refine a6 (tru false) hc rfl qA qE ?qb69;refine Xp 17 hc (hk:=?nqb69);refine Xm 18 hc (hk:=?_);refine Xa [19] (hx:=?_);(focus(refine Xw hc (hk:=?qb610);refine Xa [20] (hx:=?nqb610);(focus(refine a6 (tru false) hc rfl qA qE ?qb611;refine Xp 21 hc (hk:=?nqb611);refine Xm 22 hc (hk:=?_);refine Xa [23,24] (hx:=?_);refine⟨?_,?_⟩;(focus(refine Xw hc (hk:=?qb612);refine Xa [24] (hx:=?nqb612);(focus(refine Xw hc (hk:=?qb613);refine Xa [25] (hx:=?nqb613);(focus(refine a6 (tru false) hc rfl qA qE ?qb614;refine Xp 26 hc (hk:=?nqb614);refine Xm 27 hc (hk:=?_);refine Xa [28,29] (hx:=?_);refine⟨?_,?_⟩;(focus(refine Xw hc (hk:=?qb615);refine Xa [29] (hx:=?nqb615);(focus(refine Xw hc (hk:=?qb616);refine Xa [30] (hx:=?nqb616);(focus(refine a6 (tru false) hc rfl qA qE ?qb617;refine Xp 31 hc (hk:=?nqb617);refine Xm 32 hc (hk:=?_);refine Xa [33] (hx:=?_);(focus(refine Xw hc (hk:=?qb618);refine Xa [34] (hx:=?nqb618);(focus(refine a6 (tru false) hc rfl qA qE ?qb619;refine Xp 35 hc (hk:=?nqb619);refine Xm 36 hc (hk:=?_);refine Xz (hk:=?_);exact Xk [1,2] [1,100000,50001]))))))))));(focus(refine Xw hc (hk:=?qb620);refine Xa [28] (hx:=?nqb620);(focus(refine Xw hc (hk:=?_);exact Xq ?qb616))))))))));(focus(refine Xw hc (hk:=?qb621);refine Xa [23] (hx:=?nqb621);(focus(refine Xw hc (hk:=?_);exact Xq ?qb613))))))))))))))));(focus(refine Xw hc (hk:=?qb622);refine Xg 12 hc (hk:=?nqb622);refine Xg 13 hc (hk:=?_);refine Xg 14 hc (hk:=?_);refine Xa [9,15] (hx:=?_);refine⟨?_,?_⟩;(focus(refine Xw hc (hk:=?qb623);refine Xa [15] (hx:=?nqb623);(focus(refine a6 (int 0) hc rfl qA qE ?_;exact Xq ?qb68))));(focus(refine a6 (int 0) hc rfl qA qE ?qb624;refine Xa [9] (hx:=?nqb624);(focus(refine Xw hc (hk:=?_);exact Xq ?qb68))))))))))));(focus(refine Xw hc (hk:=?qb625);refine Xa [4] (hx:=?nqb625);(focus(refine Xw hc (hk:=?_);exact Xq ?qb64))))))))));(focus(refine Xw hc (hk:=?qb626);refine aI 0 [0,2,3,4,5,6,7,8,9,10,11,12,13,14,15,16,17,18,19,20,21,22,23,24,25,26,27,28,29,30,31,32,33,34,35,36] hc rfl qC rfl qA qF qE qA ?nqb626;refine Xa [2] (hx:=?_);(focus(refine Xs ([(100000,100000),(50001,50001),(100002,1)]) (g1) hc (hk:=?_);exact Xq ?qb62)))))))
   exact hh.get) ?_
  repeat' (first|refine Va ?_|(with_reducible refine aB (ht:=fun hb=>?_) (hf:=fun hb=>?_)<;>(try simp at hb))|refine Vn ?_|refine Vl (hG:=?_)|fail)
  refine Vr [100000,50001] (hG:=?_)
  exact⟨false,z1,rfl,qE⟩
 ·
  obtain⟨F1,p1⟩:=q1 rfl
  have P1:x.pos≤z1.pos:=by omega
  obtain⟨_,⟨c2,z2,rfl,q2⟩,g2⟩:=nO n g z1 [100,97,116,101] hn F1 qK 342 383 0 (fun s b y=> ∃t:Int,y={z1 with time:=t}∧(b=true→0≤t∧t≤253402300799)) (fun s hs=>M3 n g z1 s hs) (by rintro s _ hs ⟨k,rfl,_⟩;exact⟨F1.pos,F1.id,F1.of,F1.key,F1.k1,F1.k2,F1.len⟩)
  cases c2
  ·
   refine aQ (by
    intro r C hc hh
    refine bA (aG [1,2,3] [1,100000,50001] qA qA) ?_
    (apply Xd 37 hc;(focus(refine Xa [0,1] (hx:=?_);refine⟨?_,?_⟩;(focus(refine Xw hc (hk:=?qc60);refine Xa [1] (hx:=?nqc60);(focus(refine Xw hc (hk:=?qc61);refine Xa [2] (hx:=?nqc61);(focus(refine Xs ([(100000,100000),(50001,50001),(100002,1)]) (g1) hc (hk:=?qc62);refine Xm 3 hc (hk:=?nqc62);refine Xa [4,5] (hx:=?_);refine⟨?_,?_⟩;(focus(refine Xw hc (hk:=?qc63);refine Xa [5] (hx:=?nqc63);(focus(refine Xw hc (hk:=?qc64);refine Xa [6] (hx:=?nqc64);(focus(refine Xs ([(100000,100000),(50001,50001),(100002,1)]) (g2) hc (hk:=?qc65);refine Xp 7 hc (hk:=?nqc65);refine Xm 8 hc (hk:=?_);refine Xg 10 hc (hk:=?_);refine Xa [9,11] (hx:=?_);refine⟨?_,?_⟩;(focus(refine Xw hc (hk:=?qc66);refine Xa [11] (hx:=?nqc66);(focus(refine Xw hc (hk:=?qc67);refine Xg 12 hc (hk:=?nqc67);refine Xg 13 hc (hk:=?_);refine Xg 14 hc (hk:=?_);refine Xa [15] (hx:=?_);(focus(refine a6 (int 0) hc rfl qA qE ?qc68;refine Xa [16] (hx:=?nqc68);(focus(refine a6 (tru false) hc rfl qA qE ?qc69;refine Xp 17 hc (hk:=?nqc69);refine Xm 18 hc (hk:=?_);refine Xa [19] (hx:=?_);(focus(refine Xw hc (hk:=?qc610);refine Xa [20] (hx:=?nqc610);(focus(refine a6 (tru false) hc rfl qA qE ?qc611;refine Xp 21 hc (hk:=?nqc611);refine Xm 22 hc (hk:=?_);refine Xa [23,24] (hx:=?_);refine⟨?_,?_⟩;(focus(refine Xw hc (hk:=?qc612);refine Xa [24] (hx:=?nqc612);(focus(refine Xw hc (hk:=?qc613);refine Xa [25] (hx:=?nqc613);(focus(refine a6 (tru false) hc rfl qA qE ?qc614;refine Xp 26 hc (hk:=?nqc614);refine Xm 27 hc (hk:=?_);refine Xa [28,29] (hx:=?_);refine⟨?_,?_⟩;(focus(refine Xw hc (hk:=?qc615);refine Xa [29] (hx:=?nqc615);(focus(refine Xw hc (hk:=?qc616);refine Xa [30] (hx:=?nqc616);(focus(refine a6 (tru false) hc rfl qA qE ?qc617;refine Xp 31 hc (hk:=?nqc617);refine Xm 32 hc (hk:=?_);refine Xa [33] (hx:=?_);(focus(refine Xw hc (hk:=?qc618);refine Xa [34] (hx:=?nqc618);(focus(refine a6 (tru false) hc rfl qA qE ?qc619;refine Xp 35 hc (hk:=?nqc619);refine Xm 36 hc (hk:=?_);refine Xz (hk:=?_);exact Xk [1,2] [1,100000,50001]))))))))));(focus(refine Xw hc (hk:=?qc620);refine Xa [28] (hx:=?nqc620);(focus(refine Xw hc (hk:=?_);exact Xq ?qc616))))))))));(focus(refine Xw hc (hk:=?qc621);refine Xa [23] (hx:=?nqc621);(focus(refine Xw hc (hk:=?_);exact Xq ?qc613))))))))))))))));(focus(refine Xw hc (hk:=?qc622);refine Xg 12 hc (hk:=?nqc622);refine Xg 13 hc (hk:=?_);refine Xg 14 hc (hk:=?_);refine Xa [9,15] (hx:=?_);refine⟨?_,?_⟩;(focus(refine Xw hc (hk:=?qc623);refine Xa [15] (hx:=?nqc623);(focus(refine a6 (int 0) hc rfl qA qE ?_;exact Xq ?qc68))));(focus(refine a6 (int 0) hc rfl qA qE ?qc624;refine Xa [9] (hx:=?nqc624);(focus(refine Xw hc (hk:=?_);exact Xq ?qc68))))))))))));(focus(refine Xw hc (hk:=?qc625);refine Xa [4] (hx:=?nqc625);(focus(refine Xw hc (hk:=?_);exact Xq ?qc64))))))))));(focus(refine Xw hc (hk:=?qc626);refine aI 0 [0,2,3,4,5,6,7,8,9,10,11,12,13,14,15,16,17,18,19,20,21,22,23,24,25,26,27,28,29,30,31,32,33,34,35,36] hc rfl qC rfl qA qF qE qA ?nqc626;refine Xa [2] (hx:=?_);(focus(refine Xs ([(100000,100000),(50001,50001),(100002,1)]) (g1) hc (hk:=?_);exact Xq ?qc62)))))))
    exact hh.get) ?_
   repeat' (first|refine Va ?_|(with_reducible refine aB (ht:=fun hb=>?_) (hf:=fun hb=>?_)<;>(try simp at hb))|refine Vn ?_|refine Vl (hG:=?_)|fail)
   refine Vr [100000,50001] (hG:=?_)
   exact⟨false,z2,rfl,qE⟩
  ·
   obtain⟨F2,p2⟩:=q2 rfl
   have P2:x.pos≤z2.pos:=by omega
   obtain⟨_,rfl,g3⟩:=Ac n g z2 6
   obtain⟨_,⟨c4,z4,rfl,q4⟩,g4⟩:=nO n g z2 [107,101,121] hn F2 qK 336 417 6 (fun s b y=>b=true∧y={z2 with key:=s}) (fun s hs=>PK n g z2 s hs) (by rintro s _ hs ⟨_,rfl⟩;exact⟨F2.pos,F2.id,F2.of,hs,F2.k1,F2.k2,F2.len⟩)
   cases c4
   ·
    refine aQ (by
     intro r C hc hh
     refine bA (aG [1,2,3] [1,100000,50001] qA qA) ?_
     (apply Xd 37 hc;(focus(refine Xa [0,1] (hx:=?_);refine⟨?_,?_⟩;(focus(refine Xw hc (hk:=?qd60);refine Xa [1] (hx:=?nqd60);(focus(refine Xw hc (hk:=?qd61);refine Xa [2] (hx:=?nqd61);(focus(refine Xs ([(100000,100000),(50001,50001),(100002,1)]) (g1) hc (hk:=?qd62);refine Xm 3 hc (hk:=?nqd62);refine Xa [4,5] (hx:=?_);refine⟨?_,?_⟩;(focus(refine Xw hc (hk:=?qd63);refine Xa [5] (hx:=?nqd63);(focus(refine Xw hc (hk:=?qd64);refine Xa [6] (hx:=?nqd64);(focus(refine Xs ([(100000,100000),(50001,50001),(100002,1)]) (g2) hc (hk:=?qd65);refine Xp 7 hc (hk:=?nqd65);refine Xm 8 hc (hk:=?_);refine Xg 10 hc (hk:=?_);refine Xa [9,11] (hx:=?_);refine⟨?_,?_⟩;(focus(refine Xw hc (hk:=?qd66);refine Xa [11] (hx:=?nqd66);(focus(refine Xw hc (hk:=?qd67);refine Xg 12 hc (hk:=?nqd67);refine Xg 13 hc (hk:=?_);refine Xg 14 hc (hk:=?_);refine Xa [15] (hx:=?_);(focus(refine Xs ([(100000,100000),(50001,50001),(1,41)]) (g3) hc (hk:=?qd68);refine Xa [16] (hx:=?nqd68);(focus(refine Xs ([(100000,100000),(50001,50001),(100002,41)]) (g4) hc (hk:=?qd69);refine Xp 17 hc (hk:=?nqd69);refine Xm 18 hc (hk:=?_);refine Xa [19] (hx:=?_);(focus(refine Xw hc (hk:=?qd610);refine Xa [20] (hx:=?nqd610);(focus(refine a6 (tru false) hc rfl qA qE ?qd611;refine Xp 21 hc (hk:=?nqd611);refine Xm 22 hc (hk:=?_);refine Xa [23,24] (hx:=?_);refine⟨?_,?_⟩;(focus(refine Xw hc (hk:=?qd612);refine Xa [24] (hx:=?nqd612);(focus(refine Xw hc (hk:=?qd613);refine Xa [25] (hx:=?nqd613);(focus(refine a6 (tru false) hc rfl qA qE ?qd614;refine Xp 26 hc (hk:=?nqd614);refine Xm 27 hc (hk:=?_);refine Xa [28,29] (hx:=?_);refine⟨?_,?_⟩;(focus(refine Xw hc (hk:=?qd615);refine Xa [29] (hx:=?nqd615);(focus(refine Xw hc (hk:=?qd616);refine Xa [30] (hx:=?nqd616);(focus(refine a6 (tru false) hc rfl qA qE ?qd617;refine Xp 31 hc (hk:=?nqd617);refine Xm 32 hc (hk:=?_);refine Xa [33] (hx:=?_);(focus(refine Xw hc (hk:=?qd618);refine Xa [34] (hx:=?nqd618);(focus(refine a6 (tru false) hc rfl qA qE ?qd619;refine Xp 35 hc (hk:=?nqd619);refine Xm 36 hc (hk:=?_);refine Xz (hk:=?_);exact Xk [1,2] [1,100000,50001]))))))))));(focus(refine Xw hc (hk:=?qd620);refine Xa [28] (hx:=?nqd620);(focus(refine Xw hc (hk:=?_);exact Xq ?qd616))))))))));(focus(refine Xw hc (hk:=?qd621);refine Xa [23] (hx:=?nqd621);(focus(refine Xw hc (hk:=?_);exact Xq ?qd613))))))))))))))));(focus(refine Xw hc (hk:=?qd622);refine Xg 12 hc (hk:=?nqd622);refine Xg 13 hc (hk:=?_);refine Xg 14 hc (hk:=?_);refine Xa [9,15] (hx:=?_);refine⟨?_,?_⟩;(focus(refine Xw hc (hk:=?qd623);refine Xa [15] (hx:=?nqd623);(focus(refine Xs ([(100000,100000),(50001,50001),(1,41)]) (g3) hc (hk:=?_);exact Xq ?qd68))));(focus(refine Xs ([(100000,100000),(50001,50001),(1,41)]) (g3) hc (hk:=?qd624);refine Xa [9] (hx:=?nqd624);(focus(refine Xw hc (hk:=?_);exact Xq ?qd68))))))))))));(focus(refine Xw hc (hk:=?qd625);refine Xa [4] (hx:=?nqd625);(focus(refine Xw hc (hk:=?_);exact Xq ?qd64))))))))));(focus(refine Xw hc (hk:=?qd626);refine aI 0 [0,2,3,4,5,6,7,8,9,10,11,12,13,14,15,16,17,18,19,20,21,22,23,24,25,26,27,28,29,30,31,32,33,34,35,36] hc rfl qC rfl qA qF qE qA ?nqd626;refine Xa [2] (hx:=?_);(focus(refine Xs ([(100000,100000),(50001,50001),(100002,1)]) (g1) hc (hk:=?_);exact Xq ?qd62)))))))
     exact hh.get) ?_
    repeat' (first|refine Va ?_|(with_reducible refine aB (ht:=fun hb=>?_) (hf:=fun hb=>?_)<;>(try simp at hb))|refine Vn ?_|refine Vl (hG:=?_)|fail)
    refine Vr [100000,50001] (hG:=?_)
    exact⟨false,z4,rfl,qE⟩
   ·
    obtain⟨F4,p4⟩:=q4 rfl
    have P4:x.pos≤z4.pos:=by omega
    obtain⟨_,⟨c5,m5,K5,rfl,u5,v5,w5,x5⟩,g5⟩:=M4 n g z4 hn F4.pos F4.k1 F4.k2
    cases c5
    ·
     refine aQ (by
      intro r C hc hh
      refine bA (aG [1,2,3] [1,100000,50001] qA qA) ?_
      (apply Xd 37 hc;(focus(refine Xa [0,1] (hx:=?_);refine⟨?_,?_⟩;(focus(refine Xw hc (hk:=?qe60);refine Xa [1] (hx:=?nqe60);(focus(refine Xw hc (hk:=?qe61);refine Xa [2] (hx:=?nqe61);(focus(refine Xs ([(100000,100000),(50001,50001),(100002,1)]) (g1) hc (hk:=?qe62);refine Xm 3 hc (hk:=?nqe62);refine Xa [4,5] (hx:=?_);refine⟨?_,?_⟩;(focus(refine Xw hc (hk:=?qe63);refine Xa [5] (hx:=?nqe63);(focus(refine Xw hc (hk:=?qe64);refine Xa [6] (hx:=?nqe64);(focus(refine Xs ([(100000,100000),(50001,50001),(100002,1)]) (g2) hc (hk:=?qe65);refine Xp 7 hc (hk:=?nqe65);refine Xm 8 hc (hk:=?_);refine Xg 10 hc (hk:=?_);refine Xa [9,11] (hx:=?_);refine⟨?_,?_⟩;(focus(refine Xw hc (hk:=?qe66);refine Xa [11] (hx:=?nqe66);(focus(refine Xw hc (hk:=?qe67);refine Xg 12 hc (hk:=?nqe67);refine Xg 13 hc (hk:=?_);refine Xg 14 hc (hk:=?_);refine Xa [15] (hx:=?_);(focus(refine Xs ([(100000,100000),(50001,50001),(1,41)]) (g3) hc (hk:=?qe68);refine Xa [16] (hx:=?nqe68);(focus(refine Xs ([(100000,100000),(50001,50001),(100002,41)]) (g4) hc (hk:=?qe69);refine Xp 17 hc (hk:=?nqe69);refine Xm 18 hc (hk:=?_);refine Xa [19] (hx:=?_);(focus(refine Xw hc (hk:=?qe610);refine Xa [20] (hx:=?nqe610);(focus(refine Xs ([(100000,100000),(50001,50001)]) (g5) hc (hk:=?qe611);refine Xp 21 hc (hk:=?nqe611);refine Xm 22 hc (hk:=?_);refine Xa [23,24] (hx:=?_);refine⟨?_,?_⟩;(focus(refine Xw hc (hk:=?qe612);refine Xa [24] (hx:=?nqe612);(focus(refine Xw hc (hk:=?qe613);refine Xa [25] (hx:=?nqe613);(focus(refine a6 (tru false) hc rfl qA qE ?qe614;refine Xp 26 hc (hk:=?nqe614);refine Xm 27 hc (hk:=?_);refine Xa [28,29] (hx:=?_);refine⟨?_,?_⟩;(focus(refine Xw hc (hk:=?qe615);refine Xa [29] (hx:=?nqe615);(focus(refine Xw hc (hk:=?qe616);refine Xa [30] (hx:=?nqe616);(focus(refine a6 (tru false) hc rfl qA qE ?qe617;refine Xp 31 hc (hk:=?nqe617);refine Xm 32 hc (hk:=?_);refine Xa [33] (hx:=?_);(focus(refine Xw hc (hk:=?qe618);refine Xa [34] (hx:=?nqe618);(focus(refine a6 (tru false) hc rfl qA qE ?qe619;refine Xp 35 hc (hk:=?nqe619);refine Xm 36 hc (hk:=?_);refine Xz (hk:=?_);exact Xk [1,2] [1,100000,50001]))))))))));(focus(refine Xw hc (hk:=?qe620);refine Xa [28] (hx:=?nqe620);(focus(refine Xw hc (hk:=?_);exact Xq ?qe616))))))))));(focus(refine Xw hc (hk:=?qe621);refine Xa [23] (hx:=?nqe621);(focus(refine Xw hc (hk:=?_);exact Xq ?qe613))))))))))))))));(focus(refine Xw hc (hk:=?qe622);refine Xg 12 hc (hk:=?nqe622);refine Xg 13 hc (hk:=?_);refine Xg 14 hc (hk:=?_);refine Xa [9,15] (hx:=?_);refine⟨?_,?_⟩;(focus(refine Xw hc (hk:=?qe623);refine Xa [15] (hx:=?nqe623);(focus(refine Xs ([(100000,100000),(50001,50001),(1,41)]) (g3) hc (hk:=?_);exact Xq ?qe68))));(focus(refine Xs ([(100000,100000),(50001,50001),(1,41)]) (g3) hc (hk:=?qe624);refine Xa [9] (hx:=?nqe624);(focus(refine Xw hc (hk:=?_);exact Xq ?qe68))))))))))));(focus(refine Xw hc (hk:=?qe625);refine Xa [4] (hx:=?nqe625);(focus(refine Xw hc (hk:=?_);exact Xq ?qe64))))))))));(focus(refine Xw hc (hk:=?qe626);refine aI 0 [0,2,3,4,5,6,7,8,9,10,11,12,13,14,15,16,17,18,19,20,21,22,23,24,25,26,27,28,29,30,31,32,33,34,35,36] hc rfl qC rfl qA qF qE qA ?nqe626;refine Xa [2] (hx:=?_);(focus(refine Xs ([(100000,100000),(50001,50001),(100002,1)]) (g1) hc (hk:=?_);exact Xq ?qe62)))))))
      exact hh.get) ?_
     repeat' (first|refine Va ?_|(with_reducible refine aB (ht:=fun hb=>?_) (hf:=fun hb=>?_)<;>(try simp at hb))|refine Vn ?_|refine Vl (hG:=?_)|fail)
     refine Vr [100000,50001] (hG:=?_)
     exact⟨false,{z4 with pos:=m5,K:=K5},rfl,qE⟩
    ·
     obtain⟨z5,hz5⟩: ∃z5:Rd,z5={z4 with pos:=m5,K:=K5}:=⟨_,rfl⟩
     have F5:uD n z5:=by subst hz5;exact⟨v5,F4.id,F4.of,F4.key,w5,x5,F4.len⟩
     have P5:x.pos≤z5.pos:=by subst hz5;show x.pos≤m5;omega
     rw[←hz5]at g5
     obtain⟨_,⟨c6,z6,rfl,q6⟩,g6⟩:=nO n g z5 [108,101,110,103,116,104] hn F5 qK 344 383 0 (fun s b y=> ∃m:Nat,(b=true→m<1000000000)∧(b=false→y=z5)∧(b=true→y={z5 with len:=m})) (fun s hs=>PM n g z5 s hs) (by rintro s _ hs ⟨m,hm,_,hy⟩;obtain rfl:=hy rfl;exact⟨F5.pos,F5.id,F5.of,F5.key,F5.k1,F5.k2,by have:=hm rfl;simp only;omega⟩)
     cases c6
     ·
      refine aQ (by
       intro r C hc hh
       refine bA (aG [1,2,3] [1,100000,50001] qA qA) ?_
       (apply Xd 37 hc;(focus(refine Xa [0,1] (hx:=?_);refine⟨?_,?_⟩;(focus(refine Xw hc (hk:=?qf60);refine Xa [1] (hx:=?nqf60);(focus(refine Xw hc (hk:=?qf61);refine Xa [2] (hx:=?nqf61);(focus(refine Xs ([(100000,100000),(50001,50001),(100002,1)]) (g1) hc (hk:=?qf62);refine Xm 3 hc (hk:=?nqf62);refine Xa [4,5] (hx:=?_);refine⟨?_,?_⟩;(focus(refine Xw hc (hk:=?qf63);refine Xa [5] (hx:=?nqf63);(focus(refine Xw hc (hk:=?qf64);refine Xa [6] (hx:=?nqf64);(focus(refine Xs ([(100000,100000),(50001,50001),(100002,1)]) (g2) hc (hk:=?qf65);refine Xp 7 hc (hk:=?nqf65);refine Xm 8 hc (hk:=?_);refine Xg 10 hc (hk:=?_);refine Xa [9,11] (hx:=?_);refine⟨?_,?_⟩;(focus(refine Xw hc (hk:=?qf66);refine Xa [11] (hx:=?nqf66);(focus(refine Xw hc (hk:=?qf67);refine Xg 12 hc (hk:=?nqf67);refine Xg 13 hc (hk:=?_);refine Xg 14 hc (hk:=?_);refine Xa [15] (hx:=?_);(focus(refine Xs ([(100000,100000),(50001,50001),(1,41)]) (g3) hc (hk:=?qf68);refine Xa [16] (hx:=?nqf68);(focus(refine Xs ([(100000,100000),(50001,50001),(100002,41)]) (g4) hc (hk:=?qf69);refine Xp 17 hc (hk:=?nqf69);refine Xm 18 hc (hk:=?_);refine Xa [19] (hx:=?_);(focus(refine Xw hc (hk:=?qf610);refine Xa [20] (hx:=?nqf610);(focus(refine Xs ([(100000,100000),(50001,50001)]) (g5) hc (hk:=?qf611);refine Xp 21 hc (hk:=?nqf611);refine Xm 22 hc (hk:=?_);refine Xa [23,24] (hx:=?_);refine⟨?_,?_⟩;(focus(refine Xw hc (hk:=?qf612);refine Xa [24] (hx:=?nqf612);(focus(refine Xw hc (hk:=?qf613);refine Xa [25] (hx:=?nqf613);(focus(refine Xs ([(100000,100000),(50001,50001),(100002,1)]) (g6) hc (hk:=?qf614);refine Xp 26 hc (hk:=?nqf614);refine Xm 27 hc (hk:=?_);refine Xa [28,29] (hx:=?_);refine⟨?_,?_⟩;(focus(refine Xw hc (hk:=?qf615);refine Xa [29] (hx:=?nqf615);(focus(refine Xw hc (hk:=?qf616);refine Xa [30] (hx:=?nqf616);(focus(refine a6 (tru false) hc rfl qA qE ?qf617;refine Xp 31 hc (hk:=?nqf617);refine Xm 32 hc (hk:=?_);refine Xa [33] (hx:=?_);(focus(refine Xw hc (hk:=?qf618);refine Xa [34] (hx:=?nqf618);(focus(refine a6 (tru false) hc rfl qA qE ?qf619;refine Xp 35 hc (hk:=?nqf619);refine Xm 36 hc (hk:=?_);refine Xz (hk:=?_);exact Xk [1,2] [1,100000,50001]))))))))));(focus(refine Xw hc (hk:=?qf620);refine Xa [28] (hx:=?nqf620);(focus(refine Xw hc (hk:=?_);exact Xq ?qf616))))))))));(focus(refine Xw hc (hk:=?qf621);refine Xa [23] (hx:=?nqf621);(focus(refine Xw hc (hk:=?_);exact Xq ?qf613))))))))))))))));(focus(refine Xw hc (hk:=?qf622);refine Xg 12 hc (hk:=?nqf622);refine Xg 13 hc (hk:=?_);refine Xg 14 hc (hk:=?_);refine Xa [9,15] (hx:=?_);refine⟨?_,?_⟩;(focus(refine Xw hc (hk:=?qf623);refine Xa [15] (hx:=?nqf623);(focus(refine Xs ([(100000,100000),(50001,50001),(1,41)]) (g3) hc (hk:=?_);exact Xq ?qf68))));(focus(refine Xs ([(100000,100000),(50001,50001),(1,41)]) (g3) hc (hk:=?qf624);refine Xa [9] (hx:=?nqf624);(focus(refine Xw hc (hk:=?_);exact Xq ?qf68))))))))))));(focus(refine Xw hc (hk:=?qf625);refine Xa [4] (hx:=?nqf625);(focus(refine Xw hc (hk:=?_);exact Xq ?qf64))))))))));(focus(refine Xw hc (hk:=?qf626);refine aI 0 [0,2,3,4,5,6,7,8,9,10,11,12,13,14,15,16,17,18,19,20,21,22,23,24,25,26,27,28,29,30,31,32,33,34,35,36] hc rfl qC rfl qA qF qE qA ?nqf626;refine Xa [2] (hx:=?_);(focus(refine Xs ([(100000,100000),(50001,50001),(100002,1)]) (g1) hc (hk:=?_);exact Xq ?qf62)))))))
       exact hh.get) ?_
      repeat' (first|refine Va ?_|(with_reducible refine aB (ht:=fun hb=>?_) (hf:=fun hb=>?_)<;>(try simp at hb))|refine Vn ?_|refine Vl (hG:=?_)|fail)
      refine Vr [100000,50001] (hG:=?_)
      exact⟨false,z6,rfl,qE⟩
     ·
      obtain⟨F6,p6⟩:=q6 rfl
      have P6:x.pos≤z6.pos:=by omega
      obtain⟨_,⟨c7,z7,rfl,q7⟩,g7⟩:=nO n g z6 [100,105,103,101,115,116] hn F6 qK 345 383 0 (fun s b y=>y={z6 with dig:=s}) (fun s hs=>PL n g z6 s hs) (by rintro s _ hs rfl;exact⟨F6.pos,F6.id,F6.of,F6.key,F6.k1,F6.k2,F6.len⟩)
      cases c7
      ·
       refine aQ (by
        intro r C hc hh
        refine bA (aG [1,2,3] [1,100000,50001] qA qA) ?_
        (apply Xd 37 hc;(focus(refine Xa [0,1] (hx:=?_);refine⟨?_,?_⟩;(focus(refine Xw hc (hk:=?qg60);refine Xa [1] (hx:=?nqg60);(focus(refine Xw hc (hk:=?qg61);refine Xa [2] (hx:=?nqg61);(focus(refine Xs ([(100000,100000),(50001,50001),(100002,1)]) (g1) hc (hk:=?qg62);refine Xm 3 hc (hk:=?nqg62);refine Xa [4,5] (hx:=?_);refine⟨?_,?_⟩;(focus(refine Xw hc (hk:=?qg63);refine Xa [5] (hx:=?nqg63);(focus(refine Xw hc (hk:=?qg64);refine Xa [6] (hx:=?nqg64);(focus(refine Xs ([(100000,100000),(50001,50001),(100002,1)]) (g2) hc (hk:=?qg65);refine Xp 7 hc (hk:=?nqg65);refine Xm 8 hc (hk:=?_);refine Xg 10 hc (hk:=?_);refine Xa [9,11] (hx:=?_);refine⟨?_,?_⟩;(focus(refine Xw hc (hk:=?qg66);refine Xa [11] (hx:=?nqg66);(focus(refine Xw hc (hk:=?qg67);refine Xg 12 hc (hk:=?nqg67);refine Xg 13 hc (hk:=?_);refine Xg 14 hc (hk:=?_);refine Xa [15] (hx:=?_);(focus(refine Xs ([(100000,100000),(50001,50001),(1,41)]) (g3) hc (hk:=?qg68);refine Xa [16] (hx:=?nqg68);(focus(refine Xs ([(100000,100000),(50001,50001),(100002,41)]) (g4) hc (hk:=?qg69);refine Xp 17 hc (hk:=?nqg69);refine Xm 18 hc (hk:=?_);refine Xa [19] (hx:=?_);(focus(refine Xw hc (hk:=?qg610);refine Xa [20] (hx:=?nqg610);(focus(refine Xs ([(100000,100000),(50001,50001)]) (g5) hc (hk:=?qg611);refine Xp 21 hc (hk:=?nqg611);refine Xm 22 hc (hk:=?_);refine Xa [23,24] (hx:=?_);refine⟨?_,?_⟩;(focus(refine Xw hc (hk:=?qg612);refine Xa [24] (hx:=?nqg612);(focus(refine Xw hc (hk:=?qg613);refine Xa [25] (hx:=?nqg613);(focus(refine Xs ([(100000,100000),(50001,50001),(100002,1)]) (g6) hc (hk:=?qg614);refine Xp 26 hc (hk:=?nqg614);refine Xm 27 hc (hk:=?_);refine Xa [28,29] (hx:=?_);refine⟨?_,?_⟩;(focus(refine Xw hc (hk:=?qg615);refine Xa [29] (hx:=?nqg615);(focus(refine Xw hc (hk:=?qg616);refine Xa [30] (hx:=?nqg616);(focus(refine Xs ([(100000,100000),(50001,50001),(100002,1)]) (g7) hc (hk:=?qg617);refine Xp 31 hc (hk:=?nqg617);refine Xm 32 hc (hk:=?_);refine Xa [33] (hx:=?_);(focus(refine Xw hc (hk:=?qg618);refine Xa [34] (hx:=?nqg618);(focus(refine a6 (tru false) hc rfl qA qE ?qg619;refine Xp 35 hc (hk:=?nqg619);refine Xm 36 hc (hk:=?_);refine Xz (hk:=?_);exact Xk [1,2] [1,100000,50001]))))))))));(focus(refine Xw hc (hk:=?qg620);refine Xa [28] (hx:=?nqg620);(focus(refine Xw hc (hk:=?_);exact Xq ?qg616))))))))));(focus(refine Xw hc (hk:=?qg621);refine Xa [23] (hx:=?nqg621);(focus(refine Xw hc (hk:=?_);exact Xq ?qg613))))))))))))))));(focus(refine Xw hc (hk:=?qg622);refine Xg 12 hc (hk:=?nqg622);refine Xg 13 hc (hk:=?_);refine Xg 14 hc (hk:=?_);refine Xa [9,15] (hx:=?_);refine⟨?_,?_⟩;(focus(refine Xw hc (hk:=?qg623);refine Xa [15] (hx:=?nqg623);(focus(refine Xs ([(100000,100000),(50001,50001),(1,41)]) (g3) hc (hk:=?_);exact Xq ?qg68))));(focus(refine Xs ([(100000,100000),(50001,50001),(1,41)]) (g3) hc (hk:=?qg624);refine Xa [9] (hx:=?nqg624);(focus(refine Xw hc (hk:=?_);exact Xq ?qg68))))))))))));(focus(refine Xw hc (hk:=?qg625);refine Xa [4] (hx:=?nqg625);(focus(refine Xw hc (hk:=?_);exact Xq ?qg64))))))))));(focus(refine Xw hc (hk:=?qg626);refine aI 0 [0,2,3,4,5,6,7,8,9,10,11,12,13,14,15,16,17,18,19,20,21,22,23,24,25,26,27,28,29,30,31,32,33,34,35,36] hc rfl qC rfl qA qF qE qA ?nqg626;refine Xa [2] (hx:=?_);(focus(refine Xs ([(100000,100000),(50001,50001),(100002,1)]) (g1) hc (hk:=?_);exact Xq ?qg62)))))))
        exact hh.get) ?_
       repeat' (first|refine Va ?_|(with_reducible refine aB (ht:=fun hb=>?_) (hf:=fun hb=>?_)<;>(try simp at hb))|refine Vn ?_|refine Vl (hG:=?_)|fail)
       refine Vr [100000,50001] (hG:=?_)
       exact⟨false,z7,rfl,qE⟩
      ·
       obtain⟨F7,p7⟩:=q7 rfl
       have P7:x.pos≤z7.pos:=by omega
       obtain⟨_,⟨c8,m8,rfl,u8,v8,w8⟩,g8⟩:=JO n g z7 [] hn F7.pos
       cases c8
       ·
        refine aQ (by
         intro r C hc hh
         refine bA (aG [1,2,3] [1,100000,50001] qA qA) ?_
         (apply Xd 37 hc;(focus(refine Xa [0,1] (hx:=?_);refine⟨?_,?_⟩;(focus(refine Xw hc (hk:=?qh60);refine Xa [1] (hx:=?nqh60);(focus(refine Xw hc (hk:=?qh61);refine Xa [2] (hx:=?nqh61);(focus(refine Xs ([(100000,100000),(50001,50001),(100002,1)]) (g1) hc (hk:=?qh62);refine Xm 3 hc (hk:=?nqh62);refine Xa [4,5] (hx:=?_);refine⟨?_,?_⟩;(focus(refine Xw hc (hk:=?qh63);refine Xa [5] (hx:=?nqh63);(focus(refine Xw hc (hk:=?qh64);refine Xa [6] (hx:=?nqh64);(focus(refine Xs ([(100000,100000),(50001,50001),(100002,1)]) (g2) hc (hk:=?qh65);refine Xp 7 hc (hk:=?nqh65);refine Xm 8 hc (hk:=?_);refine Xg 10 hc (hk:=?_);refine Xa [9,11] (hx:=?_);refine⟨?_,?_⟩;(focus(refine Xw hc (hk:=?qh66);refine Xa [11] (hx:=?nqh66);(focus(refine Xw hc (hk:=?qh67);refine Xg 12 hc (hk:=?nqh67);refine Xg 13 hc (hk:=?_);refine Xg 14 hc (hk:=?_);refine Xa [15] (hx:=?_);(focus(refine Xs ([(100000,100000),(50001,50001),(1,41)]) (g3) hc (hk:=?qh68);refine Xa [16] (hx:=?nqh68);(focus(refine Xs ([(100000,100000),(50001,50001),(100002,41)]) (g4) hc (hk:=?qh69);refine Xp 17 hc (hk:=?nqh69);refine Xm 18 hc (hk:=?_);refine Xa [19] (hx:=?_);(focus(refine Xw hc (hk:=?qh610);refine Xa [20] (hx:=?nqh610);(focus(refine Xs ([(100000,100000),(50001,50001)]) (g5) hc (hk:=?qh611);refine Xp 21 hc (hk:=?nqh611);refine Xm 22 hc (hk:=?_);refine Xa [23,24] (hx:=?_);refine⟨?_,?_⟩;(focus(refine Xw hc (hk:=?qh612);refine Xa [24] (hx:=?nqh612);(focus(refine Xw hc (hk:=?qh613);refine Xa [25] (hx:=?nqh613);(focus(refine Xs ([(100000,100000),(50001,50001),(100002,1)]) (g6) hc (hk:=?qh614);refine Xp 26 hc (hk:=?nqh614);refine Xm 27 hc (hk:=?_);refine Xa [28,29] (hx:=?_);refine⟨?_,?_⟩;(focus(refine Xw hc (hk:=?qh615);refine Xa [29] (hx:=?nqh615);(focus(refine Xw hc (hk:=?qh616);refine Xa [30] (hx:=?nqh616);(focus(refine Xs ([(100000,100000),(50001,50001),(100002,1)]) (g7) hc (hk:=?qh617);refine Xp 31 hc (hk:=?nqh617);refine Xm 32 hc (hk:=?_);refine Xa [33] (hx:=?_);(focus(refine Xw hc (hk:=?qh618);refine Xa [34] (hx:=?nqh618);(focus(refine Xs ([(100000,100000),(50001,50001)]) (g8) hc (hk:=?qh619);refine Xp 35 hc (hk:=?nqh619);refine Xm 36 hc (hk:=?_);refine Xz (hk:=?_);exact Xk [1,2] [1,100000,50001]))))))))));(focus(refine Xw hc (hk:=?qh620);refine Xa [28] (hx:=?nqh620);(focus(refine Xw hc (hk:=?_);exact Xq ?qh616))))))))));(focus(refine Xw hc (hk:=?qh621);refine Xa [23] (hx:=?nqh621);(focus(refine Xw hc (hk:=?_);exact Xq ?qh613))))))))))))))));(focus(refine Xw hc (hk:=?qh622);refine Xg 12 hc (hk:=?nqh622);refine Xg 13 hc (hk:=?_);refine Xg 14 hc (hk:=?_);refine Xa [9,15] (hx:=?_);refine⟨?_,?_⟩;(focus(refine Xw hc (hk:=?qh623);refine Xa [15] (hx:=?nqh623);(focus(refine Xs ([(100000,100000),(50001,50001),(1,41)]) (g3) hc (hk:=?_);exact Xq ?qh68))));(focus(refine Xs ([(100000,100000),(50001,50001),(1,41)]) (g3) hc (hk:=?qh624);refine Xa [9] (hx:=?nqh624);(focus(refine Xw hc (hk:=?_);exact Xq ?qh68))))))))))));(focus(refine Xw hc (hk:=?qh625);refine Xa [4] (hx:=?nqh625);(focus(refine Xw hc (hk:=?_);exact Xq ?qh64))))))))));(focus(refine Xw hc (hk:=?qh626);refine aI 0 [0,2,3,4,5,6,7,8,9,10,11,12,13,14,15,16,17,18,19,20,21,22,23,24,25,26,27,28,29,30,31,32,33,34,35,36] hc rfl qC rfl qA qF qE qA ?nqh626;refine Xa [2] (hx:=?_);(focus(refine Xs ([(100000,100000),(50001,50001),(100002,1)]) (g1) hc (hk:=?_);exact Xq ?qh62)))))))
         exact hh.get) ?_
        repeat' (first|refine Va ?_|(with_reducible refine aB (ht:=fun hb=>?_) (hf:=fun hb=>?_)<;>(try simp at hb))|refine Vn ?_|refine Vl (hG:=?_)|fail)
        refine Vr [100000,50001] (hG:=?_)
        exact⟨false,{z7 with pos:=m8},rfl,qE⟩
       ·
        have F8:uD n {z7 with pos:=m8}:=⟨v8,F7.id,F7.of,F7.key,by have:=F7.k1;simp only;omega,F7.k2,F7.len⟩
        refine aQ (by
         intro r C hc hh
         refine bA (aG [1,2,3] [1,100000,50001] qA qA) ?_
         (apply Xd 37 hc;(focus(refine Xa [0,1] (hx:=?_);refine⟨?_,?_⟩;(focus(refine Xw hc (hk:=?qi60);refine Xa [1] (hx:=?nqi60);(focus(refine Xw hc (hk:=?qi61);refine Xa [2] (hx:=?nqi61);(focus(refine Xs ([(100000,100000),(50001,50001),(100002,1)]) (g1) hc (hk:=?qi62);refine Xm 3 hc (hk:=?nqi62);refine Xa [4,5] (hx:=?_);refine⟨?_,?_⟩;(focus(refine Xw hc (hk:=?qi63);refine Xa [5] (hx:=?nqi63);(focus(refine Xw hc (hk:=?qi64);refine Xa [6] (hx:=?nqi64);(focus(refine Xs ([(100000,100000),(50001,50001),(100002,1)]) (g2) hc (hk:=?qi65);refine Xp 7 hc (hk:=?nqi65);refine Xm 8 hc (hk:=?_);refine Xg 10 hc (hk:=?_);refine Xa [9,11] (hx:=?_);refine⟨?_,?_⟩;(focus(refine Xw hc (hk:=?qi66);refine Xa [11] (hx:=?nqi66);(focus(refine Xw hc (hk:=?qi67);refine Xg 12 hc (hk:=?nqi67);refine Xg 13 hc (hk:=?_);refine Xg 14 hc (hk:=?_);refine Xa [15] (hx:=?_);(focus(refine Xs ([(100000,100000),(50001,50001),(1,41)]) (g3) hc (hk:=?qi68);refine Xa [16] (hx:=?nqi68);(focus(refine Xs ([(100000,100000),(50001,50001),(100002,41)]) (g4) hc (hk:=?qi69);refine Xp 17 hc (hk:=?nqi69);refine Xm 18 hc (hk:=?_);refine Xa [19] (hx:=?_);(focus(refine Xw hc (hk:=?qi610);refine Xa [20] (hx:=?nqi610);(focus(refine Xs ([(100000,100000),(50001,50001)]) (g5) hc (hk:=?qi611);refine Xp 21 hc (hk:=?nqi611);refine Xm 22 hc (hk:=?_);refine Xa [23,24] (hx:=?_);refine⟨?_,?_⟩;(focus(refine Xw hc (hk:=?qi612);refine Xa [24] (hx:=?nqi612);(focus(refine Xw hc (hk:=?qi613);refine Xa [25] (hx:=?nqi613);(focus(refine Xs ([(100000,100000),(50001,50001),(100002,1)]) (g6) hc (hk:=?qi614);refine Xp 26 hc (hk:=?nqi614);refine Xm 27 hc (hk:=?_);refine Xa [28,29] (hx:=?_);refine⟨?_,?_⟩;(focus(refine Xw hc (hk:=?qi615);refine Xa [29] (hx:=?nqi615);(focus(refine Xw hc (hk:=?qi616);refine Xa [30] (hx:=?nqi616);(focus(refine Xs ([(100000,100000),(50001,50001),(100002,1)]) (g7) hc (hk:=?qi617);refine Xp 31 hc (hk:=?nqi617);refine Xm 32 hc (hk:=?_);refine Xa [33] (hx:=?_);(focus(refine Xw hc (hk:=?qi618);refine Xa [34] (hx:=?nqi618);(focus(refine Xs ([(100000,100000),(50001,50001)]) (g8) hc (hk:=?qi619);refine Xp 35 hc (hk:=?nqi619);refine Xm 36 hc (hk:=?_);refine Xz (hk:=?_);exact Xk [1,2] [1,100000,50001]))))))))));(focus(refine Xw hc (hk:=?qi620);refine Xa [28] (hx:=?nqi620);(focus(refine Xw hc (hk:=?_);exact Xq ?qi616))))))))));(focus(refine Xw hc (hk:=?qi621);refine Xa [23] (hx:=?nqi621);(focus(refine Xw hc (hk:=?_);exact Xq ?qi613))))))))))))))));(focus(refine Xw hc (hk:=?qi622);refine Xg 12 hc (hk:=?nqi622);refine Xg 13 hc (hk:=?_);refine Xg 14 hc (hk:=?_);refine Xa [9,15] (hx:=?_);refine⟨?_,?_⟩;(focus(refine Xw hc (hk:=?qi623);refine Xa [15] (hx:=?nqi623);(focus(refine Xs ([(100000,100000),(50001,50001),(1,41)]) (g3) hc (hk:=?_);exact Xq ?qi68))));(focus(refine Xs ([(100000,100000),(50001,50001),(1,41)]) (g3) hc (hk:=?qi624);refine Xa [9] (hx:=?nqi624);(focus(refine Xw hc (hk:=?_);exact Xq ?qi68))))))))))));(focus(refine Xw hc (hk:=?qi625);refine Xa [4] (hx:=?nqi625);(focus(refine Xw hc (hk:=?_);exact Xq ?qi64))))))))));(focus(refine Xw hc (hk:=?qi626);refine aI 0 [0,2,3,4,5,6,7,8,9,10,11,12,13,14,15,16,17,18,19,20,21,22,23,24,25,26,27,28,29,30,31,32,33,34,35,36] hc rfl qC rfl qA qF qE qA ?nqi626;refine Xa [2] (hx:=?_);(focus(refine Xs ([(100000,100000),(50001,50001),(100002,1)]) (g1) hc (hk:=?_);exact Xq ?qi62)))))))
         exact hh.get) ?_
        repeat' (first|refine Va ?_|(with_reducible refine aB (ht:=fun hb=>?_) (hf:=fun hb=>?_)<;>(try simp at hb))|refine Vn ?_|refine Vl (hG:=?_)|fail)
        refine Vr [100000,50001] (hG:=?_)
        exact⟨true,{z7 with pos:=m8},rfl,fun _=>⟨F8,qI⟩⟩
end Go.Proofs.YtdjfgcjlnfnfhaaGreatDoor
