/- MESSAGES, by what is asked of them only: numbers, lines, the top of an answer. -/
import Derived.Test.YtdjfgcjlnfnfhaaGreatDoorLwEx
import Derived.Test.YtdjfgcjlnfnfhaaGreatDoorAdA
import Derived.Test.YtdjfgcjlnfnfhaaGreatDoorLwTail
import Derived.Test.YtdjfgcjlnfnfhaaGreatDoorShelf
set_option linter.unusedSimpArgs false
set_option linter.unusedVariables false
namespace Go.Proofs.YtdjfgcjlnfnfhaaGreatDoor
open Go.Lw Go.RowKit
set_option maxRecDepth 100000
def IsB (p:Bool→Prop) (d:D):Prop:= ∃b:Bool,d=tru b∧p b
def IsF (p:Int→Prop) (d:D):Prop:= ∃n:Int,d=int n∧p n
theorem Cj (l:Bs) (hl:l.length≤9223372036854775807):aV Tryz.prog 186 [str l] (IsB fun b=>b=true→1≤l.length∧l.length≤40):=by
 refine bI Tryz.func186 rfl qC Tryz.ntmps186 _ rfl qE ?_
 have hI:=fun c=>bZ [33,35,36,37,38,39,42,43,45,46,94,95,124,126] c
 repeat' (first|refine Va ?_|(with_reducible refine aB (ht:=fun hb=>?_) (hf:=fun hb=>?_)<;>(try simp at hb))|refine Vb ?_|refine Vl (hG:=?_)|fail)
 ·exact⟨_,rfl,qE⟩
 refine vU [0,14,15] [] 15 l.length ?_
 intro L hL j hj ih
 repeat' (first|refine Va ?_|(with_reducible refine aB (ht:=fun hb=>?_) (hf:=fun hb=>?_)<;>(try simp at hb))|refine Vb ?_|refine Vl (hG:=?_)|refine Vc (hf:=qa4) (h:=?_)|refine Vd (hf:=qa4) (h:=?_)|fail)
 ·exact⟨_,rfl,qE⟩
 ·exact Vk [0,14,15] [] hL (ih (j+1) qD qD)
 ·exact⟨_,rfl,fun _=>by omega⟩
theorem Aq (l:Bs) (hl:l.length≤9223372036854775807):aJ Tryz.prog 119 [str l] (str (Lib.trimS l [32,9])):=by
 have h:=jI l [32,9] hl qE qK
 refine aW Tryz.func119 rfl qC Tryz.ntmps119 _ rfl qE fun C hc=>?_
 repeat' (first|refine Wd ?_|(refine Wc ?_ ?_<;>intro hb<;>try simp at hb)|refine Zw hc (hf:=Qc) (hk:=?_)|refine Zq hc (hf:=Qc) (hk:=?_)|refine Wo ?_|fail)
 (refine Zl hc (hr:=?_))
 simp
theorem Ck (l:Bs) (hl:l.length≤9223372036854775807):aV Tryz.prog 165 [str l] (IsB fun b=>b=true→l.length≤1000):=by
 refine bI Tryz.func165 rfl qC Tryz.ntmps165 _ rfl qE ?_
 have hT:=Aq l hl
 repeat' (first|refine Va ?_|(with_reducible refine aB (ht:=fun hb=>?_) (hf:=fun hb=>?_)<;>(try simp at hb))|refine Vb ?_|refine Vl (hG:=?_)|refine Vd (hf:=by exact hT) (h:=?_)|refine Vc (hf:=by exact hT) (h:=?_)|fail)
 ·exact⟨_,rfl,qE⟩
 refine vU [0,14,15] [] 15 l.length ?_
 intro L hL j hj ih
 repeat' (first|refine Va ?_|(with_reducible refine aB (ht:=fun hb=>?_) (hf:=fun hb=>?_)<;>(try simp at hb))|refine Vb ?_|refine Vl (hG:=?_)|fail)
 ·exact⟨_,rfl,qE⟩
 ·exact Vk [0,14,15] [] hL (ih (j+1) qD qD)
 ·exact⟨_,rfl,fun _=>by omega⟩
abbrev hdF (n:Nat) (a b:Nat→Bs):D:= .sl n fun i=>[str (a i),str (b i)]
def oI (n:Nat) (a b:Nat→Bs):Prop:=n≤1000000∧ ∀i,i<n→(a i).length≤1000000∧(b i).length≤1000000
def Vy (n:Nat) (a b:Nat→Bs):Prop:=n≤100∧ ∀i,i<n→(a i).length≤40∧(b i).length≤1000
theorem kA (n:Nat) (a b:Nat→Bs) (h:oI n a b):aV Tryz.prog 116 [hdF n a b] (IsF fun f=>f=0→Vy n a b):=by
 refine bI Tryz.func116 rfl qC Tryz.ntmps116 _ rfl qE ?_
 obtain⟨h1,h2⟩:=h
 repeat' (first|refine Va ?_|(with_reducible refine aB (ht:=fun hb=>?_) (hf:=fun hb=>?_)<;>(try simp at hb))|refine Vb ?_|refine Vl (hG:=?_)|fail)
 ·exact⟨_,rfl,qE⟩
 refine dP [] [0,8,9,10] [] (fun j:Nat=>[(10,.d (int j))]) (fun _=>[]) (fun j=>j≤n∧ ∀i,i<j→(a i).length≤40∧(b i).length≤1000) (n- ·) 0 qE ?_
 rintro L hL j ⟨hj,hi⟩ ih
 by_cases hjn:j<n
 ·obtain⟨h3,h4⟩:=h2 j hjn
  repeat' (first|refine Va ?_|(with_reducible refine aB (ht:=fun hb=>?_) (hf:=fun hb=>?_)<;>(try simp at hb))|refine Vb ?_|refine Vl (hG:=?_)|(refine Ve (hf:=Cj _ qD) (hk:=?_);rintro _ ⟨t,rfl,ht⟩)|(refine Ve (hf:=Ck _ qD) (hk:=?_);rintro _ ⟨v,rfl,hv⟩)|fail)
  all_goals try(exfalso;omega)
  ·exact⟨_,rfl,qE⟩
  ·exact⟨_,rfl,qE⟩
  ·refine Vk [0,8,9,10] [] hL (ih (j+1) ⟨qD,fun i hij=>?_⟩ qD)
   rcases Nat.lt_or_ge i j with h|h
   ·exact hi i h
   ·obtain rfl:i=j:=by omega
    exact⟨(ht qN).2,hv qN⟩
 ·repeat' (first|refine Va ?_|(with_reducible refine aB (ht:=fun hb=>?_) (hf:=fun hb=>?_)<;>(try simp at hb))|refine Vb ?_|refine Vl (hG:=?_)|fail)
  all_goals try(exfalso;omega)
  exact⟨_,rfl,fun _=>⟨qD,fun i hi'=>hi i qD⟩⟩
theorem pD (n:Nat) (a b:Nat→Bs) (h:oI n a b) (s:Bs):aV Tryz.prog 164 [hdF n a b,str s] (fun d=> ∃K:List Bs,d=cE K∧K.length≤n∧ ∀x∈K,x.length≤1000000∧ ∃i,i<n∧x=b i):=by
 refine bI Tryz.func164 rfl qC Tryz.ntmps164 _ rfl qE ?_
 obtain⟨h1,h2⟩:=h
 repeat' (first|refine Va ?_|(with_reducible refine aB (ht:=fun hb=>?_) (hf:=fun hb=>?_)<;>(try simp at hb))|refine Vb ?_|refine Vl (hG:=?_)|fail)
 refine dP [(5,none,40000,9,[str []])] [0,1,5,8,9,10] [40000] (fun x:Nat×List Bs=>[(5,.os 40000 x.2.length),(10,.d (int x.1))]) (fun x=>[(40000,.own 9 1 (true,[str []]) (x.2.map fun y=>[str y]))]) (fun x=>x.1≤n∧x.2.length≤x.1∧ ∀y∈x.2,y.length≤1000000∧ ∃i,i<n∧y=b i) (fun x=>n-x.1) (0,[]) qE ?_
 rintro L hL ⟨j,K⟩ ⟨hj,hK,hy⟩ ih
 simp only at hj hK hy ih⊢
 by_cases hjn:j<n
 ·obtain⟨h3,h4⟩:=h2 j hjn
  repeat' (first|refine Va ?_|(with_reducible refine aB (ht:=fun hb=>?_) (hf:=fun hb=>?_)<;>(try simp at hb))|refine Vb ?_|refine Vl (hG:=?_)|refine Vc (hf:=by exact bP _ qD) (h:=?_)|fail)
  all_goals try(exfalso;omega)
  ·refine Vk [0,1,5,8,9,10] [40000] hL (ih (j+1,K++[b j]) ⟨qI,qH,fun y hm=>?_⟩ qI)
   rcases List.mem_append.1 hm with hm|hm
   ·exact hy y hm
   ·simp at hm
    subst hm
    exact⟨h4,j,hjn,rfl⟩
  ·exact Vk [0,1,5,8,9,10] [40000] hL (ih (j+1,K) ⟨qI,qI,hy⟩ qI)
 ·repeat' (first|refine Va ?_|(with_reducible refine aB (ht:=fun hb=>?_) (hf:=fun hb=>?_)<;>(try simp at hb))|refine Vb ?_|refine Vl (hG:=?_)|fail)
  all_goals try(exfalso;omega)
  exact⟨K,qE,qD,hy⟩
theorem JH (n:Nat) (a b:Nat→Bs) (h:oI n a b) (s:Bs):aV Tryz.prog 117 [hdF n a b,str s] (fun d=> ∃(x:Bs) (ok:Bool),d= .tup [str x,tru ok]∧x.length≤1000000∧(ok=true→ ∃i,i<n∧x=b i)):=by
 refine bI Tryz.func117 rfl qC Tryz.ntmps117 _ rfl qE ?_
 repeat' (first|refine Va ?_|(with_reducible refine aB (ht:=fun hb=>?_) (hf:=fun hb=>?_)<;>(try simp at hb))|refine Vb ?_|refine Vl (hG:=?_)|(refine Ve (hf:=pD _ _ _ h _) (hk:=?_);rintro _ ⟨K,rfl,hK1,hK2⟩)|fail)
 all_goals try(exfalso;omega)
 ·exact⟨[],false,rfl,qE,qE⟩
 ·obtain⟨x,K,rfl⟩: ∃x K',K=x::K':=by cases K with|nil=>simp at hb|cons x K=>exact⟨x,K,rfl⟩
  obtain⟨h1,h2⟩:=hK2 x qE
  repeat' (first|refine Va ?_|(with_reducible refine aB (ht:=fun hb=>?_) (hf:=fun hb=>?_)<;>(try simp at hb))|refine Vb ?_|refine Vl (hG:=?_)|fail)
  exact⟨x,true,qE,h1,fun _=>h2⟩
theorem K0 (n:Nat) (a b:Nat→Bs) (h:oI n a b) (s:Bs) (hs:s.length≤1000000):aV Tryz.prog 193 [hdF n a b,str s] (fun d=> ∃(K:List Bs) (f:Int),d= .tup [cE K,int f]∧K.length≤n∧ ∀x∈K,x.length≤1000000):=by
 refine aV.mono (G:=fun d=>(∃f:Int,d= .tup [.lit (.slice none 0 0),int f])∨ ∃(K:List Bs) (f:Int),d= .tup [cE K,int f]∧K.length≤n∧ ∀x∈K,x.length≤1000000) (bI Tryz.func193 rfl qC Tryz.ntmps193 _ rfl qE ?_) ?_
 ·repeat' (first|refine Va ?_|(with_reducible refine aB (ht:=fun hb=>?_) (hf:=fun hb=>?_)<;>(try simp at hb))|refine Vb ?_|refine Vl (hG:=?_)|(refine Ve (hf:=kA _ _ _ h) (hk:=?_);rintro _ ⟨f,rfl,hf⟩)|(refine Ve (hf:=Cj _ qD) (hk:=?_);rintro _ ⟨t,rfl,ht⟩)|refine Vc (hf:=by exact bP _ qD) (h:=?_)|(refine Ve (hf:=pD _ _ _ h _) (hk:=?_);rintro _ ⟨K,rfl,hK1,hK2⟩)|fail)
  ·exact .inl ⟨_,rfl⟩
  ·exact .inl ⟨_,rfl⟩
  ·exact .inr ⟨_,_,rfl,hK1,fun x hx=>(hK2 x hx).1⟩
 ·rintro _ (⟨f,rfl⟩|h)
  ·exact⟨.tup [cE [],int f],eZ (bY _),[],f,rfl,qE,qE⟩
  ·exact⟨_,cJ.refl _,h⟩
theorem tY (s:Bs) (hs:s.length≤9223372036854775807) (n:Nat) (hn:n≤1000000):aV Tryz.prog 161 [str s,int n] (IsB fun b=>b=true→1≤s.length∧s.length≤n∧Lib.trimS s [48,49,50,51,52,53,54,55,56,57]=[]):=by
 refine bI Tryz.func161 rfl qC Tryz.ntmps161 _ rfl qE ?_
 have hT:=jI s [48,49,50,51,52,53,54,55,56,57] hs qE qK
 by_cases h0:1≤s.length
 ·by_cases h1:s.length≤n
  ·by_cases h2:Lib.trimS s [48,49,50,51,52,53,54,55,56,57]=[]
   ·repeat' (first|refine Va ?_|(with_reducible refine aB (ht:=fun hb=>?_) (hf:=fun hb=>?_)<;>(try simp at hb))|refine Vb ?_|refine Vl (hG:=?_)|refine Vc (hf:=by exact hT) (h:=?_)|fail)
    exact⟨_,rfl,fun _=>⟨h0,h1,h2⟩⟩
   ·repeat' (first|refine Va ?_|(with_reducible refine aB (ht:=fun hb=>?_) (hf:=fun hb=>?_)<;>(try simp at hb))|refine Vb ?_|refine Vl (hG:=?_)|refine Vc (hf:=by exact hT) (h:=?_)|fail)
    exact⟨_,rfl,by simp[h2]⟩
  ·repeat' (first|refine Va ?_|(with_reducible refine aB (ht:=fun hb=>?_) (hf:=fun hb=>?_)<;>(try simp at hb))|refine Vb ?_|refine Vl (hG:=?_)|refine Vc (hf:=by exact hT) (h:=?_)|fail)
   exact⟨_,rfl,qH⟩
 ·repeat' (first|refine Va ?_|(with_reducible refine aB (ht:=fun hb=>?_) (hf:=fun hb=>?_)<;>(try simp at hb))|refine Vb ?_|refine Vl (hG:=?_)|refine Vc (hf:=by exact hT) (h:=?_)|fail)
  exact⟨_,rfl,qH⟩
end Go.Proofs.YtdjfgcjlnfnfhaaGreatDoor
namespace Go.Proofs.YtdjfgcjlnfnfhaaGreatDoor
open Go.Lw
set_option maxRecDepth 100000
set_option maxHeartbeats 1000000
theorem JI (c:UInt8) (s:Bs) (h:c∉s):Lib.index s [c]= -1:=by
 rw[Lib.index_one]
 have h1:=rD s c
 have h2:=Lib.indexByte_ge s c
 have:s.contains c=false:=by simpa using h
 have:=h1.2 this
 omega
theorem MQ (c:UInt8): ∀(x y:Bs),c∉x→Lib.index (x++c::y) [c]=x.length:=by
 intro x y h
 rw[Lib.index_one]
 induction x with
 |nil=>simp[Lib.indexByte]
 |cons b x ih=>
  have h1: ¬b=c:=fun e=>h (by rw[e];exact List.mem_cons_self)
  have h2:=ih (fun e=>h (List.mem_cons_of_mem _ e))
  simp only[List.cons_append,Lib.indexByte,h2]
  rw[if_neg QR,if_neg qJ]
  simp
theorem vY (c:UInt8) (s:Bs):c∉s∨ ∃x y,s=x++c::y∧c∉x:=by
 by_cases h:c∈s
 ·right
  induction s with
  |nil=>cases h
  |cons b s ih=>
   by_cases hb:b=c
   ·exact⟨[],s,by rw[hb];rfl,qE⟩
   ·obtain⟨x,y,e,hx⟩:=ih (by cases h with|head=>exact absurd rfl hb|tail _ h=>exact h)
    exact⟨b::x,y,by rw[e];rfl,by simp;exact⟨fun e=>hb e.symm,hx⟩⟩
 ·exact .inl h
theorem jE (c:UInt8) (s:Bs) (h:c∉s):Lib.split s [c]=[s]:=by
 unfold Lib.split
 rw[Lib.count_miss (JI c s h)]
 rfl
theorem kJ (c:UInt8) (x y:Bs) (h:c∉x):Lib.split (x++c::y) [c]=x::Lib.split y [c]:=by
 have hi:=MQ c x y h
 unfold Lib.split
 rw[Lib.count_hit qE hi,Nat.add_comm 1,Lib.splitK,if_neg (by rw[hi];first|(simp;done)|(simp;omega)),hi]
 have e:(x++c::y).drop (x.length+1)=y:=by
  rw[show x++c::y=(x++[c])++y by simp]
  exact List.drop_left' qE
 simp only[Int.toNat_natCast,List.length_cons,List.length_nil,Nat.zero_add,Nat.add_zero,e]
 rw[List.take_left]
theorem gM (c:UInt8) (s:Bs):Lib.split s [c]≠[]:=by
 rcases vY c s with h|⟨x,y,rfl,h⟩
 ·rw[jE c s h];simp
 ·rw[kJ c x y h];simp
theorem mR (x y:Bs) (L:List Bs) (s:Bs):Lib.join (x::y::L) s=x++s++Lib.join (y::L) s:=by
 rw[Lib.join_cons,Lib.join_cons]
 simp[Lib.joinTail]
theorem K1 (x:Bs) (L:List Bs) (s:Bs) (h:L≠[]):Lib.join (x::L) s=x++s++Lib.join L s:=by
 cases L with
 |nil=>exact absurd rfl h
 |cons y L=>exact mR x y L s
theorem nN (c:UInt8) (s:Bs):Lib.join (Lib.split s [c]) [c]=s:=by
 generalize hn:s.length=n
 induction n using Nat.strongRecOn generalizing s with
 |_ n ih=>
  rcases vY c s with h|⟨x,y,rfl,h⟩
  ·rw[jE c s h,Lib.join_one]
  ·rw[kJ c x y h,K1 _ _ _ (gM c y),ih y.length (by simp at hn;omega) y rfl]
   simp
theorem It (c:UInt8) (s:Bs): ∀x∈Lib.split s [c],c∉x:=by
 generalize hn:s.length=n
 induction n using Nat.strongRecOn generalizing s with
 |_ n ih=>
  rcases vY c s with h|⟨x,y,rfl,h⟩
  ·rw[jE c s h];simpa using h
  ·rw[kJ c x y h]
   intro z hz
   cases hz with
   |head=>exact h
   |tail _ hz=>exact ih y.length (by simp at hn;omega) y rfl z hz
theorem Ar (c:UInt8): ∀L:List Bs,L≠[]→(∀x∈L,c∉x)→Lib.split (Lib.join L [c]) [c]=L
 |[],h,_=>absurd rfl h
 |[x],_,h=>by rw[Lib.join_one,jE c x (h x qE)]
 |x::y::L,_,h=>by
  rw[mR,List.append_assoc,List.singleton_append,kJ c x _ (h x qE),Ar c (y::L) qE (fun z hz=>h z (List.mem_cons_of_mem _ hz))]
theorem Dw (c:UInt8) (x:Bs) (h:c∉x):Lib.cut x [c]=(x,[],false):=by
 unfold Lib.cut
 rw[JI c x h,if_neg qD]
theorem y7 (c:UInt8) (x y:Bs) (h:c∉x):Lib.cut (x++c::y) [c]=(x,y,true):=by
 unfold Lib.cut
 rw[MQ c x y h,if_pos qD]
 have e:(x++c::y).drop (x.length+1)=y:=by
  rw[show x++c::y=(x++[c])++y by simp]
  exact List.drop_left' qE
 simp[e]
def JJ (s:Bs):Bool:=e7 s&&decide (small s=s)
def WM (s:Bs):Bs:=if[42,46] <+: s then s.drop 2 else if[33] <+: s then s.drop 1 else s
def leS (a b:Bs):Bool:=Op.bytesLess a b||a==b
def JK (l:List Bs) (j:Nat):Nat:=
 if j<l.length then
  (if JJ (WM (l[j]?.getD []))=false then 3 else if 0<j∧leS (l[j]?.getD []) (l[j-1]?.getD [])=true then 8 else JK l (j+1))
 else 0
termination_by l.length-j
def Vz (l:List Bs):Nat:=if 500<l.length then 2 else JK l 0
def JL (L:List Bs) (n:Nat):Bs:=Lib.join (L.drop (L.length-n)) [46]
def VA (L l:List Bs) (n:Nat):Bool:=decide ((33::JL L n)∈l)
def VB (L l:List Bs) (n:Nat):Bool:=decide (JL L n∈l)||(decide (1<n)&&decide ((42::46::JL L (n-1))∈l))
def R8 (L l:List Bs):Nat→Nat
 |0=>1
 |n+1=>if VB L l (n+1)=true then n+1 else R8 L l n
def SQ (L l:List Bs):Nat→Int
 |0=> -1
 |n+1=>if VA L l (n+1)=true then n else SQ L l n
def sfx (L l:List Bs):Nat:=if 0≤SQ L l L.length then(SQ L l L.length).toNat else R8 L l L.length
def Xx (host:Bs) (l:List Bs):Bs×Bool×Nat:=
 if JJ host=false then([],false,10)else if Vz l≠0 then([],false,Vz l)
 else if(Lib.split host [46]).length<sfx (Lib.split host [46]) l+1 then([],false,0)else(JL (Lib.split host [46]) (sfx (Lib.split host [46]) l+1),true,0)
end Go.Proofs.YtdjfgcjlnfnfhaaGreatDoor
namespace Go.Proofs.YtdjfgcjlnfnfhaaGreatDoor
open Go.Lw Go.RowKit
set_option maxRecDepth 100000
set_option maxHeartbeats 1000000
theorem BJ (s p:Bs):aJ Tryz.prog 214 [str s,str p] (tru (p.isPrefixOf s)):=
 dL [.string (bs s),.string (bs p)] qC fun w _=>Tryz.stringslite_HasPrefix (bs s) (bs p) w
def kB (s p:Bs):Bs:=if p <+: s then s.drop p.length else s
theorem rT (s p:Bs):aJ Tryz.prog 139 [str s,str p] (.tup [str (kB s p),tru (decide (p <+: s))]):=by
 refine aW Tryz.func139 rfl qC Tryz.ntmps139 _ rfl qE fun C hc=>?_
 have h:=BJ s p
 unfold kB
 by_cases hp:p <+: s
 ·rw[List.isPrefixOf_iff_prefix.2 hp]at h
  rw[if_pos hp]
  have:=hp.length_le
  repeat' (first|refine Wd ?_|(refine Wc ?_ ?_<;>intro hb<;>try simp at hb)|refine Zw hc (hf:=Qc) (hk:=?_)|refine Zq hc (hf:=Qc) (hk:=?_)|refine Wn ?_|fail)
  all_goals try contradiction
  (refine Zl hc (hr:=?_))
  simp[hp]
 ·rw[show p.isPrefixOf s=false by rw[←Bool.not_eq_true,List.isPrefixOf_iff_prefix];exact hp]at h
  rw[if_neg hp]
  repeat' (first|refine Wd ?_|(refine Wc ?_ ?_<;>intro hb<;>try simp at hb)|refine Zw hc (hf:=Qc) (hk:=?_)|refine Zq hc (hf:=Qc) (hk:=?_)|refine Wn ?_|fail)
  all_goals try contradiction
  (refine Zl hc (hr:=?_))
  simp[hp]
theorem fZ (s p:Bs):aJ Tryz.prog 75 [str s,str p] (.tup [str (kB s p),tru (decide (p <+: s))]):=by
 refine aW Tryz.func75 rfl qC Tryz.ntmps75 _ rfl qE fun C hc=>?_
 repeat' (first|refine Wd ?_|(refine Wc ?_ ?_<;>intro hb<;>try simp at hb)|refine Zw hc (hf:=by exact rT s p) (hk:=?_)|refine Zq hc (hf:=by exact rT s p) (hk:=?_)|refine Wn ?_|fail)
 (refine Zl hc (hr:=?_))
 simp
theorem below_drewN (w:World): ∀n,Below w.heap.size w (w.drewN n)
 |0=>by rw[World.drewN_zero];exact Below.refl _ _
 |n+1=>by rw[←World.drew_drewN];exact Below.drew (below_drewN w n)
theorem sL (s:Bs) (c:UInt8) (hs:s.length<4294967281):aJ Tryz.prog 106 [str s,str [c]] (.tup [str (Lib.cut s [c]).1,str (Lib.cut s [c]).2.1,tru (Lib.cut s [c]).2.2]):=
 ⟨qC,fun ok w vs _ hstd ha=>by
   have h0:kS w ok ([Value.string (bs s),Value.string (bs [c])].map D.lit) vs:=ha
   obtain rfl:vs= #[.string (bs s),.string (bs [c])]:=rA h0
   obtain⟨m,hm⟩:=hstd.2.1 0 3 .i64 qC qC
   refine(Tryz.strings_Cut (bs s) (bs [c]) m w Qx hm).mono fun e w' ⟨he,n,hw⟩=>⟨_,he,?_,?_⟩
   ·exact hw▸below_drewN w n
   ·exact .tup _ _ (fun i=>(#[Value.string (bs (Lib.cut s [c]).1),.string (bs (Lib.cut s [c]).2.1),.bool (Lib.cut s [c]).2.2])[i]?.getD undef) rfl (fun i hi=>by
     match i,hi with
     |0,_=>rfl
     |1,_=>rfl
     |2,_=>rfl) (fun i d hd=>by
     match i,hd with
     |0,hd=>cases hd;exact .lit _
     |1,hd=>cases hd;exact .lit _
     |2,hd=>cases hd;exact .lit _)⟩
@[simp] def Xy (x:Bs×Bool×Nat):D:= .tup [str x.1,tru x.2.1,int x.2.2]
theorem Gn (c:UInt8):oM c=true↔(c.toNat<33∨126<c.toNat)∨MN.contains c=true:=by simp[oM]
theorem rG (w:Bs) (c:UInt8):w.contains c=true↔0≤Lib.indexByte w c:=by
 have:=rD w c
 cases h:w.contains c
 ·rw[h]at this;simp at this;simp;omega
 ·rw[h]at this;simp at this;simp;omega
theorem SR {w s:Bs} {j:Nat} (h:j<s.length) (h1:0≤Lib.indexByte w (s[j]?.getD 0)):rowAt w s j=(j,true):=by
 rw[sK w s j h,if_pos ((rG _ _).2 h1)]
theorem PD {w s:Bs} {j:Nat} (h:j<s.length) (h1:Lib.indexByte w (s[j]?.getD 0)<0) (h2:(((s[j]?.getD 0).toNat:Int)<33∨126<((s[j]?.getD 0).toNat:Int))∨0≤Lib.indexByte [34,35,60,62,92,94,123,124,125,96] (s[j]?.getD 0)):rowAt w s j=(j,false):=by
 rw[sK w s j h,if_neg (fun e=>by have:=(rG _ _).1 e;omega),if_pos]
 rw[Gn]
 rcases h2 with h2|h2
 ·exact .inl qD
 ·exact .inr ((rG _ _).2 h2)
theorem Gp {w s:Bs} {j:Nat} (h:j<s.length) (h1:Lib.indexByte w (s[j]?.getD 0)<0) (h2:(33≤((s[j]?.getD 0).toNat:Int)∧((s[j]?.getD 0).toNat:Int)≤126)∧Lib.indexByte [34,35,60,62,92,94,123,124,125,96] (s[j]?.getD 0)<0):
 rowAt w s j=if s[j]?.getD 0=37 then(if j+2<s.length∧bR (s[j+1]?.getD 0)=true∧bR (s[j+2]?.getD 0)=true then rowAt w s (j+3)else(j,false))else rowAt w s (j+1):=by
 rw[sK w s j h,if_neg (fun e=>by have:=(rG _ _).1 e;omega),if_neg]
 rw[Gn]
 rintro(h3|h3)
 ·omega
 ·have:=(rG _ _).1 h3
  have h4:=h2.2
  unfold MN at this
  omega
theorem MR {w s:Bs} {j:Nat} (h:j<s.length) (h1:Lib.indexByte w (s[j]?.getD 0)<0) (h2:(33≤((s[j]?.getD 0).toNat:Int)∧((s[j]?.getD 0).toNat:Int)≤126)∧Lib.indexByte [34,35,60,62,92,94,123,124,125,96] (s[j]?.getD 0)<0)
 (h3: ¬((s[j]?.getD 0).toNat:Int)=37):rowAt w s j=rowAt w s (j+1):=by
 rw[Gp h h1 h2,if_neg]
 intro e;rw[e]at h3;exact h3 qK
theorem MS {w s:Bs} {j:Nat} (h:j<s.length) (h1:Lib.indexByte w (s[j]?.getD 0)<0) (h2:(33≤((s[j]?.getD 0).toNat:Int)∧((s[j]?.getD 0).toNat:Int)≤126)∧Lib.indexByte [34,35,60,62,92,94,123,124,125,96] (s[j]?.getD 0)<0)
 (h3:((s[j]?.getD 0).toNat:Int)=37):rowAt w s j=if j+2<s.length∧bR (s[j+1]?.getD 0)=true∧bR (s[j+2]?.getD 0)=true then rowAt w s (j+3)else(j,false):=by
 rw[Gp h h1 h2,if_pos]
 rw[←UInt8.toNat_inj];simp;omega
theorem vZ (s w:Bs) (hm:s.length≤4611686018427387904):aJ Tryz.prog 132 [str s,str w] (.tup [int (a7 w s).1,tru (a7 w s).2]):=by
 refine aW Tryz.func132 rfl qC Tryz.ntmps132 _ rfl qE fun C hc=>?_
 rw[←rowAt_zero]
 repeat' (first|refine Wd ?_|(refine Wc ?_ ?_<;>intro hb<;>try simp at hb)|refine Wn ?_|fail)
 refine aN (fun j:Nat=>⟨[(0,.d (str s)),(1,.d (str w)),(6,.d (int j))],[]⟩) (fun j=>j≤s.length∧rowAt w s 0=rowAt w s j) (fun j=>s.length-j) 0 qE (aG [0,1,6] [] qA qA) ?_
 rintro j ⟨h1,h2⟩
 rw[h2]
 repeat' (first|refine Wd ?_|(refine Wc ?_ ?_<;>intro hb<;>try simp at hb)|refine Zw hc (hf:=by first|exact bZ _ _|exact Gl _) (hk:=?_)|refine Zq hc (hf:=by first|exact bZ _ _|exact Gl _) (hk:=?_)|refine Wn ?_|fail)
 ·rename_i h3
  rw[SR qD hb]
  (refine Zl hc (hr:=?_))
  simp
 ·rename_i h4 h3
  rw[PD qD h3 hb]
  (refine Zl hc (hr:=?_))
  simp
 ·rename_i h6 h5 h4 h3
  rw[MS qD h5 h4 h3,if_neg (fun e=>by
   rcases hb with(h|h)|h
   ·omega
   ·rw[e.2.1]at h;cases h
   ·rw[e.2.2]at h;cases h)]
  (refine Zl hc (hr:=?_))
  simp
 ·rename_i h6 h5 h4 h3
  refine⟨j+3,⟨qD,?_⟩,qD,aC [0,1,6] [] qA qA qH⟩
  rw[MS qD h5 h4 h3,if_pos ⟨qD,hb.1.2,hb.2⟩]
 ·rename_i h5 h4 h3
  refine⟨j+1,⟨qD,?_⟩,qD,aC [0,1,6] [] qA qA qE⟩
  rw[MR qD h4 h3 hb]
 ·rw[KX w s j qD]
  (refine Zl hc (hr:=?_))
  simp
  omega
theorem Iu (s:Bs) (hm:s.length≤4611686018427387904):aJ Tryz.prog 324 [str s] (int (s.takeWhile bW).length):=by
 refine aW Tryz.func324 rfl qC Tryz.ntmps324 _ rfl qE fun C hc=>?_
 rw[show((s.takeWhile bW).length:Int)=(skip bW s 0:Nat)by simp[skip]]
 repeat' (first|refine Wd ?_|(refine Wc ?_ ?_<;>intro hb<;>try simp at hb)|refine Wn ?_|fail)
 refine aN (fun j:Nat=>⟨[(0,.d (str s)),(3,.d (int j))],[]⟩) (fun j=>j≤s.length∧skip bW s 0=skip bW s j) (fun j=>s.length-j) 0 qE (aG [0,3] [] qA qA) ?_
 rintro j ⟨h1,h2⟩
 rw[h2]
 have hstep:=fun h=>rC bW s j h
 have hend:=fun h=>Ak bW s j h
 have hL: ∀c:UInt8,bW c=(jX c||bE c||decide (c.toNat=45)||decide (c.toNat=46)):=fun _=>rfl
 repeat' (first|refine Wd ?_|(refine Wc ?_ ?_<;>intro hb<;>try simp at hb)|refine Zw hc (hf:=Qr) (hk:=?_)|refine Zq hc (hf:=Qr) (hk:=?_)|refine Wn ?_|fail)
 ·refine⟨j+1,⟨qD,?_⟩,qD,aC [0,3] [] qA qA qE⟩
  rw[hstep hb.1,if_pos]
  rw[hL]
  rcases hb.2 with((h|h)|h)|h
  ·simp[h]
  ·simp[h]
  ·simp;omega
  ·simp;omega
 ·have:skip bW s j=j:=by
   by_cases h:j<s.length
   ·rw[hstep h,if_neg]
    have h3:=hb h
    rw[hL,h3.1.1.1,h3.1.1.2]
    simp;omega
   ·exact hend qD
  rw[this]
  (refine Zl hc (hr:=?_))
  simp
theorem tZ (s w:Bs) (hm:s.length≤4611686018427387904):aJ Tryz.prog 68 [str s,str w] (tru (decide (isRow w s))):=by
 refine aW Tryz.func68 rfl qC Tryz.ntmps68 _ rfl qE fun C hc=>?_
 repeat' (first|refine Wd ?_|(refine Wc ?_ ?_<;>intro hb<;>try simp at hb)|refine Zw hc (hf:=by exact vZ _ _ hm) (hk:=?_)|refine Zq hc (hf:=by exact vZ _ _ hm) (hk:=?_)|refine Wn ?_|fail)
 (refine Zl hc (hr:=?_))
 refine bT ?_
 rw[Bool.eq_iff_iff]
 rw[decide_eq_true_iff,isRow,Prod.ext_iff,Bool.and_eq_true,beq_iff_eq,and_comm]
 exact and_congr_left fun _=>by omega
end Go.Proofs.YtdjfgcjlnfnfhaaGreatDoor
namespace Go.Proofs.YtdjfgcjlnfnfhaaGreatDoor
open Go.Lw
set_option maxRecDepth 100000
set_option maxHeartbeats 1000000
theorem y8 (c:UInt8) (t:Bs) (i:Nat):[c] <+: t.drop i↔t.drop i=c::t.drop (i+1):=by
 constructor
 ·rintro⟨r,h⟩
  have h2:t.drop (i+1)=(t.drop i).drop 1:=by simp
  rw[h2,←h];simp
 ·intro h;rw[h];exact⟨_,rfl⟩
theorem As {c:UInt8} {t:Bs} {i:Nat} (h:[c] <+: t.drop i):i<t.length:=by
 rw[y8]at h
 have:=congrArg List.length h
 simp at this;omega
theorem Au {c:UInt8} {r:Bs} (h: ¬[c] <+: r): ∀r',r≠c::r':=fun r' e=>h ⟨r',e.symm⟩
def plR (t:Bs) (i:Nat) (a:Adr):Bool×Nat×Adr:=
 if e7 ((t.drop i).takeWhile bW)=true then
  if[58] <+: t.drop (skip bW t i)then
   if mO ((t.drop (skip bW t i+1)).takeWhile bE)=0 then(false,skip bW t i+1,{a with host:=(t.drop i).takeWhile bW,port:=(t.drop (skip bW t i+1)).takeWhile bE})
   else(decide (Ds (t.drop (skip bE t (skip bW t i+1)))),skip bE t (skip bW t i+1),{a with host:=(t.drop i).takeWhile bW,port:=(t.drop (skip bW t i+1)).takeWhile bE})
  else(decide (Ds (t.drop (skip bW t i))),skip bW t i,{a with host:=(t.drop i).takeWhile bW})
 else(false,i,{a with host:=(t.drop i).takeWhile bW})
def frR (t:Bs) (i:Nat) (a:Adr):Bool×Nat×Adr:=
 if[35] <+: t.drop i then((a7 [] (t.drop (i+1))).2,i+1+(a7 [] (t.drop (i+1))).1,{a with fK:=true,dH:=(t.drop (i+1)).take (a7 [] (t.drop (i+1))).1})
 else(true,i,a)
def quR (t:Bs) (i:Nat) (a:Adr):Bool×Nat×Adr:=
 if[63] <+: t.drop i then
  if(a7 [35] (t.drop (i+1))).2=true then frR t (i+1+(a7 [35] (t.drop (i+1))).1) {a with eI:=true,query:=(t.drop (i+1)).take (a7 [35] (t.drop (i+1))).1}
  else(false,i+1+(a7 [35] (t.drop (i+1))).1,{a with eI:=true,query:=(t.drop (i+1)).take (a7 [35] (t.drop (i+1))).1})
 else frR t i a
def reR (t:Bs) (i:Nat) (a:Adr):Bool×Nat×Adr:=
 if(a7 [63,35] (t.drop i)).2=true then quR t (i+(a7 [63,35] (t.drop i)).1) {a with path:=(t.drop i).take (a7 [63,35] (t.drop i)).1}
 else(false,i+(a7 [63,35] (t.drop i)).1,{a with path:=(t.drop i).take (a7 [63,35] (t.drop i)).1})
theorem Cl (p:UInt8→Bool) (t:Bs) (i:Nat):(t.drop i).drop ((t.drop i).takeWhile p).length=t.drop (skip p t i):=by
 rw[List.drop_drop];unfold skip;congr 1
theorem Gq (p:UInt8→Bool) (t:Bs) (i:Nat):i+((t.drop i).takeWhile p).length=skip p t i:=rfl
theorem VC (t:Bs) (i:Nat) (a:Adr) (hp:a.port=[]):An (t.drop i) i=if(plR t i a).1=true then .ok ((plR t i a).2.2.host,(plR t i a).2.2.port,t.drop (plR t i a).2.1,(plR t i a).2.1)else .error (plR t i a).2.1:=by
 unfold An plR
 rw[Cl,Gq]
 split
 ·by_cases h:[58] <+: t.drop (skip bW t i)
  ·rw[if_pos h]
   have e:=(y8 _ _ _).1 h
   generalize hr:t.drop (skip bW t i+1)=q at e
   rw[e]
   simp only
   split
   ·simp
   ·have e2:=Cl bE t (skip bW t i+1)
    have e3:=Gq bE t (skip bW t i+1)
    rw[hr]at e2 e3
    rw[e2,e3]
    split
    ·rename_i h2;simp[h2]
    ·rename_i h2;simp[h2]
  ·rw[if_neg h]
   have hn:=Au h
   generalize t.drop (skip bW t i)=q at hn
   split
   ·rename_i q';exact absurd rfl (hn _)
   ·split
    ·rename_i h2;simp[h2,hp]
    ·rename_i h2;simp[h2]
 ·simp
theorem R9 (t:Bs) (i:Nat) (a:Adr) (hf:a.dH=[]) (hg:a.fK=false):xR (t.drop i) i=if(frR t i a).1=true then .ok ((frR t i a).2.2.dH,(frR t i a).2.2.fK)else .error (frR t i a).2.1:=by
 unfold xR frR
 by_cases h:[35] <+: t.drop i
 ·rw[if_pos h]
  have e:=(y8 _ _ _).1 h
  generalize hr:t.drop (i+1)=q at e
  rw[e]
  rfl
 ·rw[if_neg h]
  have hn:=Au h
  generalize t.drop i=q at hn
  split
  ·exact absurd rfl (hn _)
  ·simp[hf,hg]
theorem uA (t:Bs) (i:Nat) (a:Adr):(frR t i a).2.2.query=a.query∧(frR t i a).2.2.eI=a.eI∧(frR t i a).2.2.path=a.path∧(frR t i a).2.2.scheme=a.scheme∧(frR t i a).2.2.host=a.host∧(frR t i a).2.2.port=a.port:=by
 unfold frR;split<;>simp
theorem VD (t:Bs) (i:Nat) (a:Adr) (hq:a.query=[]) (hr:a.eI=false) (hf:a.dH=[]) (hg:a.fK=false):
 vW (t.drop i) i=if(quR t i a).1=true then .ok ((quR t i a).2.2.query,(quR t i a).2.2.eI,(quR t i a).2.2.dH,(quR t i a).2.2.fK)else .error (quR t i a).2.1:=by
 unfold vW quR
 by_cases h:[63] <+: t.drop i
 ·rw[if_pos h]
  have e:=(y8 _ _ _).1 h
  have hdd:=fun k=>(List.drop_drop (i:=k) (j:=i+1) (l:=t))
  generalize hr:t.drop (i+1)=q at e hdd
  rw[e]
  simp only
  split
  ·rw[hdd]
   rw[R9 t (i+1+(a7 [35] q).1) {a with eI:=true,query:=q.take (a7 [35] q).1} hf hg]
   have hs:=uA t (i+1+(a7 [35] q).1) {a with eI:=true,query:=q.take (a7 [35] q).1}
   split
   ·simp[Except.map,hs]
   ·simp[Except.map]
  ·simp
 ·rw[if_neg h]
  have hn:=Au h
  have hs:=uA t i a
  have hP:=R9 t i a hf hg
  generalize hq':t.drop i=q at hn hP
  split
  ·exact absurd rfl (hn _)
  ·rw[hP]
   split
   ·simp[Except.map,hs,hq,hr]
   ·simp[Except.map]
theorem Gr (t:Bs) (i:Nat) (a:Adr):(quR t i a).2.2.path=a.path∧(quR t i a).2.2.scheme=a.scheme∧(quR t i a).2.2.host=a.host∧(quR t i a).2.2.port=a.port:=by
 unfold quR
 split
 ·split
  ·have:=uA t (i+1+(a7 [35] (t.drop (i+1))).1) {a with eI:=true,query:=(t.drop (i+1)).take (a7 [35] (t.drop (i+1))).1}
   exact⟨this.2.2.1,this.2.2.2.1,this.2.2.2.2.1,this.2.2.2.2.2⟩
  ·simp
 ·have:=uA t i a
  exact⟨this.2.2.1,this.2.2.2.1,this.2.2.2.2.1,this.2.2.2.2.2⟩
theorem VE (t:Bs) (i:Nat) (a:Adr) (hq:a.query=[]) (hr:a.eI=false) (hf:a.dH=[]) (hg:a.fK=false):
 Gi (t.drop i) i=if(reR t i a).1=true then .ok ((reR t i a).2.2.path,(reR t i a).2.2.query,(reR t i a).2.2.eI,(reR t i a).2.2.dH,(reR t i a).2.2.fK)else .error (reR t i a).2.1:=by
 unfold Gi reR
 split
 ·rw[List.drop_drop]
  rw[VD t (i+(a7 [63,35] (t.drop i)).1) {a with path:=(t.drop i).take (a7 [63,35] (t.drop i)).1} hq hr hf hg]
  have hs:=Gr t (i+(a7 [63,35] (t.drop i)).1) {a with path:=(t.drop i).take (a7 [63,35] (t.drop i)).1}
  split
  ·simp[Except.map,hs]
  ·simp[Except.map]
 ·simp
theorem MT (t:Bs) (i:Nat) (a:Adr):(reR t i a).2.2.scheme=a.scheme∧(reR t i a).2.2.host=a.host∧(reR t i a).2.2.port=a.port:=by
 unfold reR
 split
 ·have:=Gr t (i+(a7 [63,35] (t.drop i)).1) {a with path:=(t.drop i).take (a7 [63,35] (t.drop i)).1}
  exact⟨this.2.1,this.2.2.1,this.2.2.2⟩
 ·simp
theorem MU (t:Bs) (i:Nat) (a:Adr):(plR t i a).2.2.scheme=a.scheme∧(plR t i a).2.2.path=a.path∧(plR t i a).2.2.query=a.query∧(plR t i a).2.2.eI=a.eI∧(plR t i a).2.2.dH=a.dH∧(plR t i a).2.2.fK=a.fK:=by
 unfold plR
 split
 ·split
  ·split<;>simp
  ·simp
 ·simp
theorem PE (t s:Bs) (n:Nat) (h:gV t= .ok (s,n)):Ao t=
 if(plR t n {Adr.zero with scheme:=s}).1=true then
  (if(reR t (plR t n {Adr.zero with scheme:=s}).2.1 (plR t n {Adr.zero with scheme:=s}).2.2).1=true then .ok (reR t (plR t n {Adr.zero with scheme:=s}).2.1 (plR t n {Adr.zero with scheme:=s}).2.2).2.2
    else .error (reR t (plR t n {Adr.zero with scheme:=s}).2.1 (plR t n {Adr.zero with scheme:=s}).2.2).2.1)
 else .error (plR t n {Adr.zero with scheme:=s}).2.1:=by
 unfold Ao
 rw[h]
 have e1:=VC t n {Adr.zero with scheme:=s} rfl
 have hs:=MU t n {Adr.zero with scheme:=s}
 generalize plR t n {Adr.zero with scheme:=s}=x at e1 hs
 have e2:=VE t x.2.1 x.2.2 (by rw[hs.2.2.1]) (by rw[hs.2.2.2.1]) (by rw[hs.2.2.2.2.1]) (by rw[hs.2.2.2.2.2])
 have hs2:=MT t x.2.1 x.2.2
 generalize reR t x.2.1 x.2.2=y at e2 hs2
 obtain⟨b,k,xa⟩:=x
 obtain⟨b2,k2,⟨ysc,yh,yp,ypa,yq,yhq,yf,yhf⟩⟩:=y
 simp only at e1 e2 hs hs2⊢
 rw[e1]
 cases b
 ·rfl
 ·simp only[if_true]
  rw[e2]
  cases b2
  ·rfl
  ·simp only[if_true]
   obtain⟨h1,h2,h3⟩:=hs2
   rw[h1,h2,h3,hs.1]
def Dx (a:Adr):Prop:= ¬okS a.scheme∨e7 a.host=false∨(a.port≠[]∧mO a.port=0)
def Dy (a:Adr):Prop:=(a.path≠[]∧(a.path[0]?.getD 0).toNat≠47)∨ ¬isRow [63] a.path∨ ¬isRow [] a.query∨ ¬isRow [] a.dH
def Gs (a:Adr):Prop:=(a.query≠[]∧a.eI=false)∨(a.dH≠[]∧a.fK=false)
instance (a:Adr):Decidable (Dx a):=by unfold Dx;infer_instance
instance (a:Adr):Decidable (Dy a):=by unfold Dy;infer_instance
instance (a:Adr):Decidable (Gs a):=by unfold Gs;infer_instance
def bX (a:Adr):Nat:=if Dx a then 10 else if Dy a then 10 else if Gs a then 3 else if 2000<(dF a).length then 2 else 0
theorem kC (a:Adr):bX a=0↔SO a∧(dF a).length≤2000:=by
 have hp:(a.path≠[]∧(a.path[0]?.getD 0).toNat≠47)↔ ¬(a.path=[]∨a.path[0]?=some 47):=by
  cases a.path with
  |nil=>simp
  |cons c r=>simp[←UInt8.toNat_inj]
 unfold bX
 constructor
 ·intro h
  split at h
  ·omega
  rename_i h1
  split at h
  ·omega
  rename_i h2
  split at h
  ·omega
  rename_i h3
  split at h
  ·omega
  rename_i h4
  simp only[Dx,not_or,Classical.not_not,not_and]at h1
  simp only[Dy,not_or,Classical.not_not]at h2
  simp only[Gs,not_or,not_and]at h3
  exact⟨⟨h1.1,by simpa using h1.2.1,by
   rcases Classical.em (a.port=[])with h|h
   ·exact .inl h
   ·exact .inr (h1.2.2 h),Classical.not_not.1 (fun e=>h2.1 (hp.2 e)),h2.2.1,h2.2.2.1,h2.2.2.2,fun h=>by simpa using h3.1 h,fun h=>by simpa using h3.2 h⟩,qD⟩
 ·rintro⟨⟨k1,k2,k3,k4,k5,k6,k7,k8,k9⟩,hl⟩
  rw[if_neg,if_neg,if_neg,if_neg qD]
  ·simp only[Gs,not_or,not_and];exact⟨fun h=>by rw[k8 h];decide,fun h=>by rw[k9 h];decide⟩
  ·simp only[Dy,not_or,Classical.not_not];exact⟨fun e=>hp.1 e k4,k5,k6,k7⟩
  ·simp only[Dx,not_or,Classical.not_not,not_and]
   exact⟨k1,by rw[k2];decide,fun h=>by
    rcases k3 with k|k
    ·exact absurd k h
    ·exact k⟩
def dR (t:Bs):Adr×Nat×Nat:=if 2000<t.length then(Adr.zero,0,2)else match Ao t with
 | .ok a=>(a,0,0)
 | .error n=>(Adr.zero,n,10)
theorem Av (t:Bs):((dR t).2.2≠0∧(dR t).1=Adr.zero)∨((dR t).2.2=0∧(dR t).2.1=0∧bX (dR t).1=0∧dF (dR t).1=t):=by
 unfold dR
 split
 ·exact .inl ⟨qK,rfl⟩
 ·rename_i hl
  split
  ·rename_i a h
   obtain⟨h1,h2⟩:=Iq h
   exact .inr ⟨rfl,rfl,(kC a).2 ⟨h1,by rw[h2];omega⟩,h2⟩
  ·exact .inl ⟨qE,rfl⟩
end Go.Proofs.YtdjfgcjlnfnfhaaGreatDoor
namespace Go.Proofs.YtdjfgcjlnfnfhaaGreatDoor
open Go.Lw Go.RowKit
set_option maxRecDepth 100000
set_option maxHeartbeats 1000000
def yL (w t:Bs) (n:Nat):Nat:=n+cG (w.drop n) (t.drop n)
theorem Cm (w t:Bs) (n:Nat) (h1:n<w.length) (h2:n<t.length):yL w t n=if low (t[n]?.getD 0)=w[n]?.getD 0 then yL w t (n+1)else n:=by
 unfold yL
 rw[mQ w n h1,mQ t n h2]
 simp only[cG]
 split
 ·omega
 ·rfl
theorem Gt (w t:Bs) (n:Nat) (h:w.length≤n∨t.length≤n):yL w t n=n:=by
 unfold yL
 rcases h with h|h
 ·rw[List.drop_of_length_le h];simp[cG]
 ·rw[List.drop_of_length_le h];cases w.drop n<;>simp[cG]
theorem Dz (t:Bs) (n:Nat) (h:n<t.length):(t.take (n+1)).drop n=[t[n]?.getD 0]:=by
 rw[List.take_add_one,List.drop_append_of_le_length qH,List.drop_of_length_le qH]
 simp[h]
theorem MV {w t:Bs} {n:Nat} (h1:n<w.length) (h2:n<t.length) (h3:small ((t.take (n+1)).drop n)=(w.take (n+1)).drop n):yL w t n=yL w t (n+1):=by
 rw[Dz t n h2,Dz w n h1]at h3
 rw[Cm w t n h1 h2,if_pos (by simpa[small]using h3)]
theorem JM {w t:Bs} {n:Nat} (h:n<w.length→n<t.length→ ¬small ((t.take (n+1)).drop n)=(w.take (n+1)).drop n):yL w t n=n:=by
 by_cases h1:n<w.length
 ·by_cases h2:n<t.length
  ·have h3:=h h1 h2
   rw[Dz t n h2,Dz w n h1]at h3
   rw[Cm w t n h1 h2,if_neg (by simpa[small]using h3)]
  ·exact Gt w t n (.inr qD)
 ·exact Gt w t n (.inl qD)
def Gu (t:Bs):D:=match gV t with
 | .ok (s,n)=> .tup [str s,int n,tru true]
 | .error n=> .tup [str [],int n,tru false]
def mxP (t:Bs):Nat→Nat
 |0=>0
 |1=>cG jT t
 |_=>max (cG jT t) (cG gC t)
theorem K3 (t:Bs) (hm:t.length≤4611686018427387904):aJ Tryz.prog 269 [str t] (Gu t):=by
 refine aW Tryz.func269 rfl qC Tryz.ntmps269 _ rfl qE fun C hc=>?_
 have hp1:=vX jT t
 have hp2:=vX gC t
 repeat' (first|refine Wd ?_|(refine Wc ?_ ?_<;>intro hb<;>try simp at hb)|refine Wn ?_|fail)
 refine aN (fun j:Nat=>⟨[(0,.d (str t)),(3,.d (int (mxP t j))),(8,.os 8 2),(9,.d (int 2)),(10,.d (int j))],[(8,.own 9 1 (true,[str []]) [[str jT],[str gC]])]⟩) (fun j=>j≤2∧(1≤j→cG jT t≠7)∧(2≤j→cG gC t≠8)) (fun j=>2-j) 0 qE (aG [0,3,8,9,10] [8] qA qA) ?_
 rintro j ⟨h1,h2,h3⟩
 obtain rfl|rfl|rfl:j=0∨j=1∨j=2:=by omega
 ·repeat' (first|refine Wd ?_|(refine Wc ?_ ?_<;>intro hb<;>try simp at hb)|refine Wn ?_|fail)
  refine aN (fun n:Nat=>⟨[(0,.d (str t)),(3,.d (int (mxP t 0))),(6,.d (str jT)),(7,.d (int n)),(8,.os 8 2),(9,.d (int 2)),(10,.d (int 0))],[(8,.own 9 1 (true,[str []]) [[str jT],[str gC]])]⟩) (fun n=>n≤7∧n≤t.length∧cG jT t=yL jT t n) (fun n=>7-n) 0 (by simp[yL]) (aG [0,3,6,7,8,9,10] [8] qA qA) ?_
  rintro n ⟨k1,k2,k3⟩
  have hlw:jT.length=7:=rfl
  repeat' (first|refine lJ ?_|refine dE hc qaE qG ?_|refine jS hc qC qC qaE qG ?_|refine iE ?_|refine eA ?_|refine gY ?_|refine fN ?_|refine jO ?_|refine iG ?_|refine jP ?_|refine iF ?_|refine eX ?_|refine jA ?_|refine gW ?_|refine dZ ?_|refine gX ?_|refine eU ?_|refine dV qK ?_|refine lK ?_|refine e9 ?_|refine eY ?_|(refine gK qM (fun hb=>?_) (fun hb=>?_)<;>(try simp at hb))|refine cP hc qM qM qM qM qM (fun _=>by first|exact bP _ (by simp[hlw];omega)) qE qE ?_|refine cW hc qM qM qM qM qM (fun _=>by first|exact bP _ (by simp[hlw];omega)) qE qE ?_|refine fX hc Qo qK qG ?_|refine dK hc Qo qK qG ?_|refine cH hc Q5 qG ?_|refine dM hc qC qK qC Q5 qG ?_|fail)
  ·obtain⟨⟨g1,g2⟩,g3⟩:=hb
   exact⟨n+1,⟨qD,qD,by rw[k3];exact MV qD g2 g3⟩,qD,aC [0,3,6,7,8,9,10] [8] qM qM qE⟩
  ·rename_i g1
   have hv:cG jT t=n:=by rw[k3];exact JM (fun x y=>g1 qD y)
   have e:Gu t= .tup [str (t.take (n-3)),int n,tru true]:=by
    have:n=7:=by omega
    subst this
    unfold Gu gV
    rw[if_pos hv]
   rw[e]
   (refine p9 hc qM ?_)
   simp
  ·rename_i g1
   have hv:cG jT t=n:=by rw[k3];exact JM (fun x y=>g1 qD y)
   refine⟨1,⟨qD,fun _=>by omega,fun _=>by omega⟩,qD,aC [0,3,8,9,10] [8] qM qM ?_⟩
   simp[mxP,hv]
   try omega
 ·repeat' (first|refine Wd ?_|(refine Wc ?_ ?_<;>intro hb<;>try simp at hb)|refine Wn ?_|fail)
  refine aN (fun n:Nat=>⟨[(0,.d (str t)),(3,.d (int (mxP t 1))),(6,.d (str gC)),(7,.d (int n)),(8,.os 8 2),(9,.d (int 2)),(10,.d (int 1))],[(8,.own 9 1 (true,[str []]) [[str jT],[str gC]])]⟩) (fun n=>n≤8∧n≤t.length∧cG gC t=yL gC t n) (fun n=>8-n) 0 (by simp[yL]) (aG [0,3,6,7,8,9,10] [8] qA qA) ?_
  rintro n ⟨k1,k2,k3⟩
  have hlw:gC.length=8:=rfl
  repeat' (first|refine lJ ?_|refine dE hc qaE qG ?_|refine jS hc qC qC qaE qG ?_|refine iE ?_|refine eA ?_|refine gY ?_|refine fN ?_|refine jO ?_|refine iG ?_|refine jP ?_|refine iF ?_|refine eX ?_|refine jA ?_|refine gW ?_|refine dZ ?_|refine gX ?_|refine eU ?_|refine dV qK ?_|refine lK ?_|refine e9 ?_|refine eY ?_|(refine gK qM (fun hb=>?_) (fun hb=>?_)<;>(try simp at hb))|refine cP hc qM qM qM qM qM (fun _=>by first|exact bP _ (by simp[hlw];omega)) qE qE ?_|refine cW hc qM qM qM qM qM (fun _=>by first|exact bP _ (by simp[hlw];omega)) qE qE ?_|refine fX hc Qo qK qG ?_|refine dK hc Qo qK qG ?_|refine cH hc Q5 qG ?_|refine dM hc qC qK qC Q5 qG ?_|fail)
  ·obtain⟨⟨g1,g2⟩,g3⟩:=hb
   exact⟨n+1,⟨qD,qD,by rw[k3];exact MV qD g2 g3⟩,qD,aC [0,3,6,7,8,9,10] [8] qM qM qE⟩
  ·rename_i g1
   have hv:cG gC t=n:=by rw[k3];exact JM (fun x y=>g1 qD y)
   have e:Gu t= .tup [str (t.take (n-3)),int n,tru true]:=by
    have:n=8:=by omega
    subst this
    unfold Gu gV
    rw[if_neg (h2 qD),if_pos hv]
   rw[e]
   (refine p9 hc qM ?_)
   simp
  ·rename_i g1
   have hv:cG gC t=n:=by rw[k3];exact JM (fun x y=>g1 qD y)
   refine⟨2,⟨qD,fun _=>h2 qD,fun _=>by omega⟩,qD,aC [0,3,8,9,10] [8] qM qM ?_⟩
   simp[mxP,hv]
   try omega
 ·repeat' (first|refine Wd ?_|(refine Wc ?_ ?_<;>intro hb<;>try simp at hb)|refine Wn ?_|fail)
  ·have e:Gu t= .tup [str [],int (mxP t 2),tru false]:=by
    unfold Gu gV
    rw[if_neg (h2 qD),if_neg (h3 qD)]
    rfl
   rw[e]
   (refine Zl hc (hr:=?_))
   simp
def nw (w:Bs) (c:UInt8):Bool:= !w.contains c
theorem sM {w:Bs} (hw: ∀c,w.contains c=true→bR c=false): ∀r:Bs,a7 w r=a7 [] (r.takeWhile (nw w))
 |[]=>rfl
 |c::r=>by
  by_cases h1:w.contains c=true
  ·rw[List.takeWhile_cons_of_neg (by unfold nw;rw[h1];decide),a7.eq_def]
   simp only
   rw[if_pos h1]
   rfl
  have h1':nw w c=true:=by unfold nw;simpa using h1
  rw[List.takeWhile_cons_of_pos h1',a7.eq_def w,a7.eq_def []]
  simp only
  rw[if_neg h1,if_neg (show¬([]:Bs).contains c=true by simp)]
  by_cases h2:oM c=true
  ·rw[if_pos h2,if_pos h2]
  rw[if_neg h2,if_neg h2]
  by_cases h3:c=37
  ·rw[if_pos h3,if_pos h3]
   match r with
   |[]=>rfl
   |[h]=>
    by_cases hh:nw w h=true
    ·rw[List.takeWhile_cons_of_pos hh];rfl
    ·rw[List.takeWhile_cons_of_neg hh]
   |h::k::r2=>
    by_cases hh:nw w h=true
    ·by_cases hk:nw w k=true
     ·rw[List.takeWhile_cons_of_pos hh,List.takeWhile_cons_of_pos hk]
      simp only
      rw[sM hw r2]
     ·rw[List.takeWhile_cons_of_pos hh,List.takeWhile_cons_of_neg hk]
      have:bR k=false:=hw k (by unfold nw at hk;simpa using hk)
      simp only
      rw[if_neg (by rw[this];simp)]
    ·rw[List.takeWhile_cons_of_neg hh]
     have:bR h=false:=hw h (by unfold nw at hh;simpa using hh)
     simp only
     rw[if_neg (by rw[this];simp)]
  ·rw[if_neg h3,if_neg h3,sM hw r]
theorem JN {c:UInt8} (h:bR c=true):oM c=false∧ ¬c=37:=by
 have h1: ∀n:Fin 256,bR (UInt8.ofNat n.val)=true→oM (UInt8.ofNat n.val)=false∧ ¬UInt8.ofNat n.val=37:=by decide
 have h2:=h1 ⟨c.toNat,c.toNat_lt⟩
 simp only[UInt8.ofNat_toNat]at h2
 exact h2 h
def VF (s:Bs):Int:=if(a7 [] s).2=true then-1 else(a7 [] s).1
def pass (t w:Bs) (i:Nat):Int:=if cG w (t.drop i)=w.length then-1 else((i+cG w (t.drop i):Nat):Int)
theorem pE: ∀(s:Bs) (acc:Nat),s.all bE=true→Lib.decFrom acc s=some (s.foldl (fun n c=>10*n+(c.toNat-48)) acc)
 |[],acc,_=>rfl
 |c::r,acc,h=>by
  simp only[List.all_cons,Bool.and_eq_true]at h
  have hd:48≤c.toNat∧c.toNat≤57:=by simpa[bE]using h.1
  have e:Lib.digitVal c=some (c.toNat-48):=by unfold Lib.digitVal;rw[if_pos hd]
  simp only[Lib.decFrom,e,List.foldl_cons]
  rw[pE r _ h.2,Nat.mul_comm]
theorem Gv {s:Bs} (h1:1≤s.length) (h:s.all bE=true):Lib.atoi s=some (tX s:Int):=by
 cases s with
 |nil=>simp at h1
 |cons c r=>
  have h2:=h
  simp only[List.all_cons,Bool.and_eq_true]at h2
  have hd:48≤c.toNat∧c.toNat≤57:=by simpa[bE]using h2.1
  have n1: ¬(c==45)=true:=by
   simp only[beq_iff_eq,←UInt8.toNat_inj]
   simp
   omega
  have n2: ¬(c==43)=true:=by
   simp only[beq_iff_eq,←UInt8.toNat_inj]
   simp
   omega
  unfold Lib.atoi
  simp only
  rw[if_neg n1,if_neg n2]
  unfold Lib.decNat
  rw[if_neg qE,pE (c::r) 0 h]
  rfl
abbrev XA (t:Bs) (i b:Int):List V:=[.d (str t),.d (int i),.d (int b)]
def Sa (b:Int) (i:Nat) (u:Bs):Int:=if 0≤VF u∧b<0 then i+VF u else b
theorem MW (s:Bs) (h:s.all bE=true) (k:Nat) (hk:s.length≤k):tX s<10^k:=by
 have:=JF s h s.length (Nat.le_refl _)
 rw[List.take_length]at this
 exact Nat.lt_of_lt_of_le this (Nat.pow_le_pow_right qK hk)
theorem MX (s:Bs) (h1:1≤s.length) (h5:s.length≤15) (h:s.all bE=true):aJ Tryz.prog 162 [str s] (.tup [int (tX s),.lit .nilIface]):=
 ⟨qC,fun ok w vs _ hstd ha=>by
   have h0:kS w ok ([Value.string (bs s)].map D.lit) vs:=ha
   obtain rfl:vs= #[.string (bs s)]:=rA h0
   refine(Tryz.strconv_Atoi (bs s) (tX s) qH (by simpa using Gv h1 h) w).mono fun e w' ⟨he,t,hw⟩=>⟨_,he,?_,?_⟩
   ·exact hw▸⟨rfl,rfl,rfl,by rw[Lib.bytesWorld_size];omega,fun k hk=>Lib.bytesWorld_at_old w _ t k hk⟩
   ·exact .tup _ _ (fun i=>(#[Value.int .i64 (tX s),.nilIface])[i]?.getD undef) rfl (fun i hi=>by
     match i,hi with
     |0,_=>rfl
     |1,_=>rfl) (fun i d hd=>by
     match i,hd with
     |0,hd=>cases hd;exact .lit _
     |1,hd=>cases hd;exact .lit _)⟩
theorem Aw (s:Bs) (h1:1≤s.length) (k:Nat) (h5:s.length≤k) (hk:k≤15) (h:s.all bE=true):aV Tryz.prog 162 [str s] (fun d=> ∃n:Nat,d= .tup [int n,.lit .nilIface]∧n<10^k):=
 ⟨_,⟨_,rfl,MW s h k h5⟩,MX s h1 qD h⟩
theorem Gw (n:Nat) (a b:Nat→Bs) (h:oI n a b):aV Tryz.prog 96 [hdF n a b] (fun d=> ∃(k:Nat) (ok:Bool),d= .tup [int k,tru ok]∧k≤200001):=by
 refine bI Tryz.func96 rfl qC Tryz.ntmps96 _ rfl qE ?_
 repeat' (first|refine Va ?_|(with_reducible refine aB (ht:=fun hb=>?_) (hf:=fun hb=>?_)<;>(try simp at hb))|refine Vb ?_|refine Vl (hG:=?_)|(refine Ve (hf:=pD _ _ _ h _) (hk:=?_);rintro _ ⟨K,rfl,hK1,hK2⟩)|fail)
 have hK0:(K[0]?.getD []).length≤1000000:=by
  cases K with
  |nil=>simp
  |cons x K=>exact(hK2 x qE).1
 repeat' (first|refine Va ?_|(with_reducible refine aB (ht:=fun hb=>?_) (hf:=fun hb=>?_)<;>(try simp at hb))|refine Vb ?_|refine Vl (hG:=?_)|(refine Ve (hf:=tY _ qD 1000 qD) (hk:=?_);rintro _ ⟨_|_,rfl,ht⟩)|(refine Ve (hf:=Aw _ (ht rfl).1 9 qD qD ((fY _).1 (ht rfl).2.2)) (hk:=?_);rintro _ ⟨m,rfl,hm⟩)|fail)
 all_goals try(exfalso;omega)
 ·exact⟨0,false,rfl,qD⟩
 ·exact⟨0,false,rfl,qD⟩
 ·exact⟨200001,true,rfl,qD⟩
 ·exact⟨min m 200001,true,by simp;grind,qD⟩
abbrev byF (n:Nat) (g:Nat→UInt8):D:= .sl n fun i=>aZ (g i)
theorem Ax (n:Nat) (g:Nat→UInt8) (k:Nat) (hk:k≤n) (hn:n≤1000000):aV Tryz.prog 160 [byF n g,int k] (fun d=> ∃(s:Bs) (m:Nat) (ok:Bool),d= .tup [str s,int m,tru ok]∧s.length≤1000000∧k≤m∧m≤n∧(ok=true→k<m)):=by
 refine bI Tryz.func160 rfl qC Tryz.ntmps160 _ rfl qE ?_
 repeat' (first|refine Va ?_|(with_reducible refine aB (ht:=fun hb=>?_) (hf:=fun hb=>?_)<;>(try simp at hb))|refine Vb ?_|refine Vl (hG:=?_)|fail)
 refine dP [] [0,1,7] [] (fun j:Nat=>[(7,.d (int j))]) (fun _=>[]) (fun j=>k≤j∧j≤n) (n- ·) k qH ?_
 rintro L hL j ⟨hj1,hj2⟩ ih
 by_cases hjn:j<n
 ·by_cases hjn1:j+1<n
  ·repeat' (first|refine Va ?_|(with_reducible refine aB (ht:=fun hb=>?_) (hf:=fun hb=>?_)<;>(try simp at hb))|refine Vb ?_|refine Vl (hG:=?_)|fail)
   all_goals try(exfalso;omega)
   ·exact⟨_,j+2,true,rfl,qH,qD,qD,qD⟩
   ·exact⟨[],k,false,rfl,qE,qD,qD,qE⟩
   ·exact Vk [0,1,7] [] hL (ih (j+1) ⟨qD,qD⟩ qD)
  ·repeat' (first|refine Va ?_|(with_reducible refine aB (ht:=fun hb=>?_) (hf:=fun hb=>?_)<;>(try simp at hb))|refine Vb ?_|refine Vl (hG:=?_)|fail)
   all_goals try(exfalso;omega)
   ·exact⟨[],k,false,rfl,qE,qD,qD,qE⟩
   ·exact Vk [0,1,7] [] hL (ih (j+1) ⟨qD,qD⟩ qD)
 ·repeat' (first|refine Va ?_|(with_reducible refine aB (ht:=fun hb=>?_) (hf:=fun hb=>?_)<;>(try simp at hb))|refine Vb ?_|refine Vl (hG:=?_)|fail)
  all_goals try(exfalso;omega)
  exact⟨[],k,false,rfl,qE,qD,qD,qE⟩
theorem PF (s c:Bs) (hs:s.length<4294967281):aJ Tryz.prog 106 [str s,str c] (.tup [str (Lib.cut s c).1,str (Lib.cut s c).2.1,tru (Lib.cut s c).2.2]):=
 ⟨qC,fun ok w vs _ hstd ha=>by
   have h0:kS w ok ([Value.string (bs s),Value.string (bs c)].map D.lit) vs:=ha
   obtain rfl:vs= #[.string (bs s),.string (bs c)]:=rA h0
   obtain⟨m,hm⟩:=hstd.2.1 0 3 .i64 qC qC
   refine(Tryz.strings_Cut (bs s) (bs c) m w Qx hm).mono fun e w' ⟨he,n,hw⟩=>⟨_,he,?_,?_⟩
   ·exact hw▸below_drewN w n
   ·exact .tup _ _ (fun i=>(#[Value.string (bs (Lib.cut s c).1),.string (bs (Lib.cut s c).2.1),.bool (Lib.cut s c).2.2])[i]?.getD undef) rfl (fun i hi=>by
     match i,hi with
     |0,_=>rfl
     |1,_=>rfl
     |2,_=>rfl) (fun i d hd=>by
     match i,hd with
     |0,hd=>cases hd;exact .lit _
     |1,hd=>cases hd;exact .lit _
     |2,hd=>cases hd;exact .lit _)⟩
theorem Sb (s c:Bs) (hs:s.length≤1000000):aV Tryz.prog 106 [str s,str c] (fun d=> ∃(x y:Bs) (t:Bool),d= .tup [str x,str y,tru t]∧x.length≤s.length∧y.length≤s.length):=by
 refine⟨_,⟨_,_,_,rfl,?_⟩,PF s c qD⟩
 unfold Lib.cut
 split<;>simp<;>omega
theorem uC (s p:Bs) (hs:s.length≤1000000):aJ Tryz.prog 120 [str s,str p] (tru (Lib.contains s p)):=
 dL [.string (bs s),.string (bs p)] qC fun w hstd=>by
  obtain⟨m,hm⟩:=hstd.2.1 0 3 .i64 qC qC
  exact Tryz.strings_Contains (bs s) (bs p) m w qH hm
theorem Gx (s:Bs) (hs:s.length≤1000000):aV Tryz.prog 237 [str s] (fun d=> ∃(x y:Bs) (ok:Bool),d= .tup [.agg [str x,str y],tru ok]∧x.length≤1000000∧y.length≤1000000):=by
 refine bI Tryz.func237 rfl qC Tryz.ntmps237 _ rfl qE ?_
 have hC:=Sb s [58,32] hs
 repeat' (first|refine Va ?_|(with_reducible refine aB (ht:=fun hb=>?_) (hf:=fun hb=>?_)<;>(try simp at hb))|refine Vb ?_|refine Vl (hG:=?_)|(refine Ve (hf:=hC) (hk:=?_);rintro _ ⟨x,y,t,rfl,hx,hy⟩)|refine Vc (hf:=by exact uC _ _ qD) (h:=?_)|fail)
 ·exact⟨[],[],false,rfl,qE,qE⟩
 ·exact⟨x,y,true,rfl,qD,qD⟩
end Go.Proofs.YtdjfgcjlnfnfhaaGreatDoor
