/- ADDRESS: Resolve, at any base and any text: what it gives. (WITH run_drawN.) -/
import Derived.Test.YtdjfgcjlnfnfhaaGreatDoorMsE
import Derived.Test.YtdjfgcjlnfnfhaaGreatDoorRdE
import Derived.Test.YtdjfgcjlnfnfhaaGreatDoorLwEx
import Derived.Test.YtdjfgcjlnfnfhaaGreatDoorAdA
import Derived.Test.YtdjfgcjlnfnfhaaGreatDoorMsB
import Derived.Test.YtdjfgcjlnfnfhaaGreatDoorLwTail
import Derived.Lib.LastIndexByte
set_option linter.unusedSimpArgs false
set_option linter.unusedVariables false
namespace Go.Proofs.YtdjfgcjlnfnfhaaGreatDoor
open Go.Lw Go.RowKit
set_option maxRecDepth 100000
set_option maxHeartbeats 8000000
abbrev enZ:D:= .agg [str [],int 0,int 0,str [],str [],str [],int 0,int 0,tru false]
def Mom (t:Int):Prop:=0≤t∧t≤253402300799
def VJ (s:Sto) (key:Bs) (d:D):Prop:=d= .tup [enZ,tru false]∨ ∃i,i<s.ne∧d= .tup [(s.en i).d,tru true]∧(s.en i).key=key∧(s.en i).Ok
theorem DI (s:Sto) (hs:s.Fit) (L:List (Key×D)) (key:Bs) (hk:key.length≤9223372036854775807) (t w:Int):aV Tryz.prog 89 [AB s L,str key,int t,int w] (VJ s key):=by
 refine bI Tryz.func89 rfl qC Tryz.ntmps89 _ rfl qE ?_
 repeat' (first|refine Va ?_|(with_reducible refine aB (ht:=fun hb=>?_) (hf:=fun hb=>?_)<;>(try simp at hb))|refine Vn ?_|refine Vl (hG:=?_)|(refine Ve (hf:=PV s.ne s.en key t w hs.en hs.ne hk) (hk:=?_);rintro _ (⟨e,rfl⟩|⟨i,hi,rfl,h1,h2⟩))|fail)
 ·exact .inl rfl
 ·exact .inr ⟨i,hi,rfl,h1,h2⟩
theorem Nw (e:En) (t:Int) (h1:Mom e.time) (h2:Mom t):aV Tryz.prog 90 [e.d,int t] (IsF fun n=>True):=by
 obtain⟨h1,h3⟩:=h1
 obtain⟨h2,h4⟩:=h2
 refine bI Tryz.func90 rfl qC Tryz.ntmps90 _ rfl qE ?_
 repeat' (first|refine Va ?_|(with_reducible refine aB (ht:=fun hb=>?_) (hf:=fun hb=>?_)<;>(try simp at hb))|refine Vn ?_|refine Vl (hG:=?_)|fail)
 exact⟨_,rfl,trivial⟩
theorem wF (s:Sto) (hs:s.Fit) (L:List (Key×D)) (key:Bs) (hk:key.length≤9223372036854775807) (t dr:Int) (ht:Mom t):aV Tryz.prog 38 [AB s L,str key,int t,int dr] (VJ s key):=by
 refine bI Tryz.func38 rfl qC Tryz.ntmps38 _ rfl qE ?_
 repeat' (first|refine Va ?_|(with_reducible refine aB (ht:=fun hb=>?_) (hf:=fun hb=>?_)<;>(try simp at hb))|refine Vn ?_|refine Vl (hG:=?_)|(refine Ve (hf:=DI s hs L key hk t 1) (hk:=?_);rintro _ (rfl|⟨i,hi,rfl,h1,h2⟩))|(refine Ve (hf:=Nw _ t h2.time ht) (hk:=?_);rintro _ ⟨a,rfl,_⟩)|refine Vx (h:=?_)|fail)
 all_goals try contradiction
 all_goals first|exact .inl rfl|exact .inr ⟨i,hi,rfl,h1,h2⟩
theorem Lh (n:Int):aV Tryz.prog 87 [int n] (IsB fun _=>True):=by
 refine bI Tryz.func87 rfl qC Tryz.ntmps87 _ rfl qE ?_
 repeat' (first|refine Va ?_|(with_reducible refine aB (ht:=fun hb=>?_) (hf:=fun hb=>?_)<;>(try simp at hb))|refine Vn ?_|refine Vl (hG:=?_)|fail)
 exact⟨_,rfl,trivial⟩
def Sd (s:Sto) (p:Prop) (d:D):Prop:=(∃e:Int,d= .tup [.lit (.pointer none),int e]∧e≠0)∨ ∃L,d= .tup [AB s L,int 0]∧rV s L∧p
theorem VK (s:Sto) (hs:s.Fit) (key:Bs) (hk:key.length≤9223372036854775807) (t dr:Int):aV Tryz.prog 36 [s.d,str key,int t,int dr] (Sd s (Mom t)):=by
 refine bI Tryz.func36 rfl qC Tryz.ntmps36 _ rfl qE ?_
 repeat' (first|refine Va ?_|(with_reducible refine aB (ht:=fun hb=>?_) (hf:=fun hb=>?_)<;>(try simp at hb))|refine Vn ?_|refine Vl (hG:=?_)|(refine Ve (hf:=Nt s hs) (hk:=?_);rintro _ (⟨e,rfl,he⟩|⟨L,rfl,hL⟩))|(refine Ve (hf:=y9 key hk) (hk:=?_);rintro _ ⟨b,rfl,_⟩)|refine Vc (hf:=qaS) (h:=?_)|(refine Ve (hf:=Lh dr) (hk:=?_);rintro _ ⟨b2,rfl,_⟩)|fail)
 all_goals try contradiction
 ·exact .inl ⟨_,rfl,qN⟩
 ·exact .inl ⟨_,rfl,qK⟩
 ·exact .inl ⟨_,rfl,qK⟩
 ·exact .inr ⟨L,rfl,hL,(by assumption:(0≤t∧t≤253402300799)∧b2=true).1⟩
theorem ID (s:Sto) (L:List (Key×D)) (h:rV s L) (i:Nat) (hi:i<s.ne):aV Tryz.prog 14 [AB s L,(s.en i).d] (fun d=> ∃(a:D) (e:Int),d= .tup [a,int e]∧JT a):=by
 obtain⟨F,hF,hget⟩:=h.fi i hi
 obtain⟨ks,fd,hml,hmp⟩: ∃ks fd,iD ks fd=xY F F.length∧PR 2 (xY F F.length)= .mp 2 ks fd:=⟨_,_,uE _,rfl⟩
 obtain⟨ks0,fd0,hml0,hmp0⟩: ∃ks fd,iD ks fd=L∧PR 0 L= .mp 0 ks fd:=⟨_,_,uE _,rfl⟩
 obtain⟨id,hid⟩: ∃id,dT (str []) (iD ks fd) (.ii (s.en i).fr (s.en i).til)=str id:=by
  rw[hml]
  rcases DC F (.ii (s.en i).fr (s.en i).til) F.length (Nat.le_refl _)with⟨h1,_⟩|⟨⟨j,_,h1⟩,_⟩
  ·exact⟨_,h1⟩
  ·exact⟨_,h1⟩
 rw[Ns,hmp,←hml0]at hget
 obtain⟨_,⟨m,g,e,rfl,hm⟩,hS⟩:=PQ F.length (pF F) (by have:=hF.1;omega) (fun j hj=>(hF.2.1 j hj).fit) id
 rw[←hid]at hS
 rw[AB,hmp0]
 refine aV.mono (G:=fun d=>(∃e:Int,d= .tup [.agg [int 0,str [],.lit (.slice none 0 0),.lit (.slice none 0 0)],int e])∨ ∃(a:D) (e:Int),d= .tup [a,int e]∧JT a) (bI Tryz.func14 rfl qC Tryz.ntmps14 _ rfl qE ?_) ?_
 rotate_left
 ·rintro _ (⟨e,rfl⟩|h)
  ·refine⟨.tup [v7 0 [] [] 0 fun _=>0,int e],eZ (mK rfl fun k x hk=>?_),_,e,rfl,0,[],[],0,_,rfl,qE,⟨qE,qE⟩,qD⟩
   match k,hk with
   |0,hk=>cases hk;exact⟨_,rfl,cJ.refl _⟩
   |1,hk=>cases hk;exact⟨_,rfl,cJ.refl _⟩
   |2,hk=>cases hk;exact⟨_,rfl,bY _⟩
   |3,hk=>cases hk;exact⟨_,rfl,bY _⟩
  ·exact⟨_,cJ.refl _,h⟩
 repeat' (first|refine Va ?_|(with_reducible refine aB (ht:=fun hb=>?_) (hf:=fun hb=>?_)<;>(try simp at hb))|refine Vn ?_|refine Vl (hG:=?_)|fail)
 refine aQ (by
  intro r C hc hh
  refine bA (aG [0,3,4,5] [3,4] qA qA) ?_
  (apply Xd 9 hc;(focus(refine Xm 0 hc (hk:=?_);refine Xp 4 hc (hk:=?_);refine Xa [1,5,7] (hx:=?_);refine⟨?_,?_,?_⟩;(focus(refine Xw hc (hk:=?q10);refine Xa [2,5,7] (hx:=?nq10);refine⟨?_,?_,?_⟩;(focus(refine Xw hc (hk:=?q11);refine Xa [3,5,7] (hx:=?nq11);refine⟨?_,?_,?_⟩;(focus(refine Xw hc (hk:=?q12);refine Xa [5,7] (hx:=?nq12);refine⟨?_,?_⟩;(focus(refine Xw hc (hk:=?q13);refine Xa [6,7] (hx:=?nq13);refine⟨?_,?_⟩;(focus(refine Xw hc (hk:=?_);refine gA Q7 ?q14;refine Xa [7] (hx:=?nq14);(focus(refine Xw hc (hk:=?q15);refine Xa [8] (hx:=?nq15);(focus(refine Xw hc (hk:=?q16);refine Xz (hk:=?nq16);exact Xk [0,3,4,5,6] [3,4,6]))))));(focus(refine Xw hc (hk:=?q17);refine Xa [6] (hx:=?nq17);(focus(refine Xw hc (hk:=?_);refine gA Q7 ?_;exact Xq ?q15))))));(focus(refine Xw hc (hk:=?q18);refine aI 5 [5,6,8] hc rfl qC rfl qA qF qE qA ?nq18;refine Xa [6] (hx:=?_);(focus(refine Xw hc (hk:=?_);refine gA Q7 ?_;exact Xq ?q15))))));(focus(refine Xw hc (hk:=?q19);refine Xa [3,7] (hx:=?nq19);refine⟨?_,?_⟩;(focus(refine Xw hc (hk:=?_);exact Xq ?q13));(focus(refine Xw hc (hk:=?q110);refine aI 3 [3,6,8] hc rfl qC rfl qA qF qE qA ?nq110;refine Xa [6] (hx:=?_);(focus(refine Xw hc (hk:=?_);refine gA Q7 ?_;exact Xq ?q15))))));(focus(refine Xw hc (hk:=?q111);refine aI 3 [3,6,8] hc rfl qC rfl qA qF qE qA ?nq111;refine aI 5 [5,6,8] hc rfl qC rfl qA qF qE qA ?_;refine Xa [6] (hx:=?_);(focus(refine Xw hc (hk:=?_);refine gA Q7 ?_;exact Xq ?q15))))));(focus(refine Xw hc (hk:=?q112);refine Xa [2,7] (hx:=?nq112);refine⟨?_,?_⟩;(focus(refine Xw hc (hk:=?_);exact Xq ?q19));(focus(refine Xw hc (hk:=?q113);refine Xa [2] (hx:=?nq113);(focus(refine Xw hc (hk:=?_);exact Xq ?q110))))));(focus(refine Xw hc (hk:=?q114);refine Xa [2,5] (hx:=?nq114);refine⟨?_,?_⟩;(focus(refine Xw hc (hk:=?_);exact Xq ?q111));(focus(refine Xw hc (hk:=?_);exact Xq ?q113))))));(focus(refine Xw hc (hk:=?q115);refine Xa [1,7] (hx:=?nq115);refine⟨?_,?_⟩;(focus(refine Xw hc (hk:=?_);exact Xq ?q112));(focus(refine Xw hc (hk:=?q116);refine Xa [1] (hx:=?nq116);(focus(refine Xw hc (hk:=?_);exact Xq ?q113))))));(focus(refine Xw hc (hk:=?q117);refine Xa [1,5] (hx:=?nq117);refine⟨?_,?_⟩;(focus(refine Xw hc (hk:=?_);exact Xq ?q114));(focus(refine Xw hc (hk:=?_);exact Xq ?q116)))))))
  exact hh.get) ?_
 repeat' (first|refine Va ?_|(with_reducible refine aB (ht:=fun hb=>?_) (hf:=fun hb=>?_)<;>(try simp at hb))|refine Vn ?_|refine Vl (hG:=?_)|fail)
 refine aQ (by
  intro r C hc hh
  refine bA (aG [3,4,5,6] [3,4,6] qA qA) ?_
  (apply Pd 13 hc;(focus(refine Pr 0 hc (hk:=?_);refine Pr 1 hc (hk:=?_);refine Pr 2 hc (hk:=?_);refine Pr 3 hc (hk:=?_);refine Pr 4 hc (hk:=?_);refine Pr 5 hc (hk:=?_);refine Pr 6 hc (hk:=?_);refine Pc 7 hc (hf:=by first|exact hS) (hk:=?_);refine Pr 8 hc (hk:=?_);refine Pr 9 hc (hk:=?_);refine Pr 10 hc (hk:=?_);refine Pr 11 hc (hk:=?_);refine Pr 12 hc (hk:=?_);refine Pz (hk:=?_);exact aG [4,5,7,8] [4] Qg Qg)))
  exact hh.get) ?_
 repeat' (first|refine Va ?_|(with_reducible refine aB (ht:=fun hb=>?_) (hf:=fun hb=>?_)<;>(try simp at hb))|refine Vn ?_|refine Vl (hG:=?_)|(refine Ve (hf:=DH _ _ qD) (hk:=?_);rintro _ ⟨_,x,y,e,rfl,st,rs,K,m2,g2,rfl,h⟩)|fail)
 ·exact .inl ⟨_,rfl⟩
 all_goals exact .inr ⟨_,_,rfl,st,rs,K,m2,g2,rfl,h⟩
theorem Li (s:Sto) (L:List (Key×D)) (h:rV s L) (i:Nat) (hi:i<s.ne) (t:Int):aV Tryz.prog 125 [AB s L,(s.en i).d,int t] (IsB fun _=>True):=by
 refine bI Tryz.func125 rfl qC Tryz.ntmps125 _ rfl qE ?_
 repeat' (first|refine Va ?_|(with_reducible refine aB (ht:=fun hb=>?_) (hf:=fun hb=>?_)<;>(try simp at hb))|refine Vn ?_|refine Vl (hG:=?_)|(refine Ve (hf:=ID s L h i hi) (hk:=?_);rintro _ ⟨_,e,rfl,st,rs,K,m2,g2,rfl,h1,hK,h3⟩)|(refine Ve (hf:=K0 _ _ _ hK.hd [109,111,100,105,102,105,101,100] qE) (hk:=?_);rintro _ ⟨P,f,rfl,hP1,hP2⟩)|fail)
 ·exact⟨_,rfl,trivial⟩
 ·exact⟨_,rfl,trivial⟩
 obtain⟨x,P,rfl⟩: ∃x P',P=x::P':=by cases P with|nil=>simp at hb|cons x P=>exact⟨x,P,rfl⟩
 have hx:=hP2 x qE
 repeat' (first|refine Va ?_|(with_reducible refine aB (ht:=fun hb=>?_) (hf:=fun hb=>?_)<;>(try simp at hb))|refine Vn ?_|refine Vl (hG:=?_)|(refine Ve (hf:=xT x hx) (hk:=?_);rintro _ ⟨n,f2,rfl,_⟩)|fail)
 exact⟨_,rfl,trivial⟩
theorem Nx (s:Sto) (hs:s.Fit) (L:List (Key×D)) (h:rV s L) (key:Bs) (hk:key.length≤9223372036854775807) (t dr:Int) (ht:Mom t):aV Tryz.prog 56 [AB s L,str key,int t,int dr] (fun d=> ∃a b c:Int,d= .agg [str key,int 0,int a,int b,int c]):=by
 refine bI Tryz.func56 rfl qC Tryz.ntmps56 _ rfl qE ?_
 repeat' (first|refine Va ?_|(with_reducible refine aB (ht:=fun hb=>?_) (hf:=fun hb=>?_)<;>(try simp at hb))|refine Vn ?_|refine Vl (hG:=?_)|(refine Ve (hf:=wF s hs L key hk t dr ht) (hk:=?_);rintro _ (rfl|⟨i,hi,rfl,h1,h2⟩))|fail)
 all_goals try contradiction
 ·exact⟨_,_,_,rfl⟩
 obtain⟨_,⟨w,rfl,_⟩,hA⟩:=Nw _ t h2.time ht
 refine aQ (by
  intro r C hc hh
  refine bA (aG [0,1,2,3,8,9,10] [8,9,10] qA qA) ?_
  (apply Xd 9 hc;(focus(refine Xp 0 hc (hk:=?_);refine Xm 3 hc (hk:=?_);refine aI 2 [2,4,6,7,8] hc rfl qC rfl qA qF qE qA ?_;refine Xa [1,4] (hx:=?_);refine⟨?_,?_⟩;(focus(refine Xw hc (hk:=?qb60);refine Xp 5 hc (hk:=?nqb60);refine Xa [4] (hx:=?_);(focus(refine Xc hc (hf:=hA) (hk:=?qb61);refine Xa [6] (hx:=?nqb61);(focus(refine Xw hc (hk:=?qb62);refine Xp 7 hc (hk:=?nqb62);refine Xa [8] (hx:=?_);(focus(refine Xw hc (hk:=?qb63);refine Xz (hk:=?nqb63);exact Xk [0,1,2,3,8,9,10] [8,9,10]))))))));(focus(refine Xc hc (hf:=hA) (hk:=?qb64);refine aI 1 [1,5,6,7,8] hc rfl qC rfl qA qF qE qA ?nqb64;refine Xp 5 hc (hk:=?_);refine Xa [6] (hx:=?_);(focus(refine Xw hc (hk:=?_);exact Xq ?qb62)))))))
  exact hh.get) ?_
 repeat' (first|refine Va ?_|(with_reducible refine aB (ht:=fun hb=>?_) (hf:=fun hb=>?_)<;>(try simp at hb))|refine Vn ?_|refine Vl (hG:=?_)|(refine Ve (hf:=DI s hs L key hk t 2) (hk:=?_);rintro _ (rfl|⟨i1,hi1,rfl,g1,g2⟩))|(refine Ve (hf:=DI s hs L key hk t 3) (hk:=?_);rintro _ (rfl|⟨i2,hi2,rfl,g3,g4⟩))|(refine Ve (hf:=Li s L h i hi t) (hk:=?_);rintro _ ⟨b,rfl,_⟩)|fail)
 all_goals try contradiction
 all_goals exact⟨_,_,_,rfl⟩
set_option maxHeartbeats 1000000
abbrev WT (t:Bs) (i:Int) (a:Adr):List V:=[.d (str t),.d (int i),.d (str a.scheme),.d (str a.host),.d (str a.port),.d (str a.path),.d (str a.query),.d (tru a.eI),.d (str a.dH),.d (tru a.fK)]
abbrev rdr (t:Bs) (i:Int) (a:Adr):List (Nat×O):=[(100000,.box 362 (WT t i a))]
theorem Ny (t:Bs) (i n:Nat):(t.take (i+n)).drop i=(t.drop i).take n:=by rw[List.drop_take];simp
theorem DJ (t w:Bs) (i:Nat) (a:Adr) (hi:i≤t.length) (hm:t.length≤4611686018427387904):
 bJ Tryz.prog 325 [.bp 100000 0,.d (str w)] (rdr t i a) (.d (.tup [str ((t.drop i).take (a7 w (t.drop i)).1),tru (a7 w (t.drop i)).2])) (rdr t ((i+(a7 w (t.drop i)).1:Nat):Int) a):=by
 refine cY Tryz.func325 rfl qC Tryz.ntmps325 _ rfl qE fun C hc=>?_
 have hle:=j9 w (t.drop i)
 simp only[List.length_drop]at hle
 rw[←Ny]
 have hro:=vZ (t.drop i) w qH
 have eT:((i:Int)+((a7 w (t.drop i)).1:Int)).toNat=i+(a7 w (t.drop i)).1:=by omega
 repeat' (first|refine Wd ?_|(refine Wc ?_ ?_<;>intro hb<;>try simp at hb)|refine Zw hc (hf:=by exact hro) (hk:=?_)|refine Zq hc (hf:=by exact hro) (hk:=?_)|refine Wn ?_|fail)
 (refine aE [100000] hc (aR rfl) qA qA qJ ?_)
 (first|(simp;done)|(simp;omega))
theorem PW (t:Bs) (i:Nat) (a:Adr) (hi:i≤t.length) (hm:t.length≤4611686018427387904):
 bJ Tryz.prog 271 [.bp 100000 0] (rdr t i a) (.d (tru (reR t i a).1)) (rdr t (((reR t i a).2.1:Nat):Int) (reR t i a).2.2):=by
 refine cY Tryz.func271 rfl qC Tryz.ntmps271 _ rfl qE fun C hc=>?_
 have hl1:=j9 [63,35] (t.drop i)
 have h1:=DJ t [63,35] i a hi hm
 rcases hx1:a7 [63,35] (t.drop i)with⟨n1,b1⟩
 rw[hx1]at hl1 h1
 simp only[List.length_drop]at hl1 h1
 cases b1 with
 |false=>
  have e:reR t i a=(false,i+n1,{a with path:=(t.drop i).take n1}):=by unfold reR;rw[hx1];rfl
  rw[e]
  repeat' (first|refine Wd ?_|(refine Wc ?_ ?_<;>intro hb<;>try simp at hb)|refine Wn ?_|refine aF ([(100000,100000)]) (h1) hc qA qA qA qA qA rfl qA qA rfl qE qE qA qA ?_|fail)
  all_goals try contradiction
  (refine aE [100000] hc (aR rfl) qA qA qJ ?_)
  (first|(simp;done)|(simp;omega))
 |true=>
  have e:reR t i a=quR t (i+n1) {a with path:=(t.drop i).take n1}:=by unfold reR;rw[hx1];rfl
  rw[e]
  have eT1:((i:Int)+(n1:Int)).toNat=i+n1:=by omega
  have eT2:((i:Int)+(n1:Int)+1).toNat=i+n1+1:=by omega
  have hq1:=aS (t.drop (i+n1)) [63]
  by_cases p1:[63] <+: t.drop (i+n1)
  ·rw[List.isPrefixOf_iff_prefix.2 p1]at hq1
   have hlt:=As p1
   have hl2:=j9 [35] (t.drop (i+n1+1))
   have h2:=DJ t [35] (i+n1+1) {a with path:=(t.drop i).take n1,eI:=true} qD hm
   rcases hx2:a7 [35] (t.drop (i+n1+1))with⟨n2,b2⟩
   rw[hx2]at hl2 h2
   simp only[List.length_drop]at hl2 h2
   cases b2 with
   |false=>
    have e:quR t (i+n1) {a with path:=(t.drop i).take n1}=(false,i+n1+1+n2,{a with path:=(t.drop i).take n1,eI:=true,query:=(t.drop (i+n1+1)).take n2}):=by unfold quR;rw[if_pos p1,hx2];rfl
    rw[e]
    repeat' (first|refine Wd ?_|(refine Wc ?_ ?_<;>intro hb<;>try simp at hb)|refine Zw hc (hf:=by exact hq1) (hk:=?_)|refine Zq hc (hf:=by exact hq1) (hk:=?_)|refine Wn ?_|refine aF ([(100000,100000)]) (h1) hc qA qA qA qA qA rfl qA qA rfl qE qE qA qA ?_|refine aF ([(100000,100000)]) (h2) hc qA qA qA qA qA rfl qA qA rfl qE qE qA qA ?_|fail)
    all_goals try contradiction
    (refine aE [100000] hc (aR rfl) qA qA qJ ?_)
    (first|(simp;done)|(simp;omega))
   |true=>
    have e:quR t (i+n1) {a with path:=(t.drop i).take n1}=frR t (i+n1+1+n2) {a with path:=(t.drop i).take n1,eI:=true,query:=(t.drop (i+n1+1)).take n2}:=by unfold quR;rw[if_pos p1,hx2];rfl
    rw[e]
    have eT3:((i:Int)+(n1:Int)+1+(n2:Int)).toNat=i+n1+1+n2:=by omega
    have eT4:((i:Int)+(n1:Int)+1+(n2:Int)+1).toNat=i+n1+1+n2+1:=by omega
    have hq2:=aS (t.drop (i+n1+1+n2)) [35]
    by_cases p2:[35] <+: t.drop (i+n1+1+n2)
    ·have hlt2:=As p2
     have e:frR t (i+n1+1+n2) {a with path:=(t.drop i).take n1,eI:=true,query:=(t.drop (i+n1+1)).take n2}=((a7 [] (t.drop (i+n1+1+n2+1))).2,i+n1+1+n2+1+(a7 [] (t.drop (i+n1+1+n2+1))).1,{a with path:=(t.drop i).take n1,eI:=true,query:=(t.drop (i+n1+1)).take n2,fK:=true,dH:=(t.drop (i+n1+1+n2+1)).take (a7 [] (t.drop (i+n1+1+n2+1))).1}):=by unfold frR;rw[if_pos p2]
     rw[e]
     rw[List.isPrefixOf_iff_prefix.2 p2]at hq2
     have h3:=DJ t [] (i+n1+1+n2+1) {a with path:=(t.drop i).take n1,eI:=true,query:=(t.drop (i+n1+1)).take n2,fK:=true} qD hm
     rcases hx3:a7 [] (t.drop (i+n1+1+n2+1))with⟨n3,b3⟩
     rw[hx3]at h3
     cases b3<;>repeat' (first|refine Wd ?_|(refine Wc ?_ ?_<;>intro hb<;>try simp at hb)|refine Zw hc (hf:=Qi) (hk:=?_)|refine Zq hc (hf:=Qi) (hk:=?_)|refine Wn ?_|refine aF ([(100000,100000)]) (h1) hc qA qA qA qA qA rfl qA qA rfl qE qE qA qA ?_|refine aF ([(100000,100000)]) (h2) hc qA qA qA qA qA rfl qA qA rfl qE qE qA qA ?_|refine aF ([(100000,100000)]) (h3) hc qA qA qA qA qA rfl qA qA rfl qE qE qA qA ?_|fail)
     all_goals try contradiction
     all_goals(refine aE [100000] hc (aR rfl) qA qA qJ ?_)
     all_goals(first|(simp;done)|(simp;omega))
    ·have e:frR t (i+n1+1+n2) {a with path:=(t.drop i).take n1,eI:=true,query:=(t.drop (i+n1+1)).take n2}=(true,i+n1+1+n2,{a with path:=(t.drop i).take n1,eI:=true,query:=(t.drop (i+n1+1)).take n2}):=by unfold frR;rw[if_neg p2]
     rw[e]
     rw[show([35]:Bs).isPrefixOf (t.drop (i+n1+1+n2))=false by rw[←Bool.not_eq_true,List.isPrefixOf_iff_prefix];exact p2]at hq2
     repeat' (first|refine Wd ?_|(refine Wc ?_ ?_<;>intro hb<;>try simp at hb)|refine Zw hc (hf:=Qi) (hk:=?_)|refine Zq hc (hf:=Qi) (hk:=?_)|refine Wn ?_|refine aF ([(100000,100000)]) (h1) hc qA qA qA qA qA rfl qA qA rfl qE qE qA qA ?_|refine aF ([(100000,100000)]) (h2) hc qA qA qA qA qA rfl qA qA rfl qE qE qA qA ?_|fail)
     all_goals try contradiction
     (refine aE [100000] hc (aR rfl) qA qA qJ ?_)
     (first|(simp;done)|(simp;omega))
  ·have e:quR t (i+n1) {a with path:=(t.drop i).take n1}=frR t (i+n1) {a with path:=(t.drop i).take n1}:=by unfold quR;rw[if_neg p1]
   rw[e]
   rw[show([63]:Bs).isPrefixOf (t.drop (i+n1))=false by rw[←Bool.not_eq_true,List.isPrefixOf_iff_prefix];exact p1]at hq1
   have hq2:=aS (t.drop (i+n1)) [35]
   by_cases p2:[35] <+: t.drop (i+n1)
   ·have hlt2:=As p2
    have e:frR t (i+n1) {a with path:=(t.drop i).take n1}=((a7 [] (t.drop (i+n1+1))).2,i+n1+1+(a7 [] (t.drop (i+n1+1))).1,{a with path:=(t.drop i).take n1,fK:=true,dH:=(t.drop (i+n1+1)).take (a7 [] (t.drop (i+n1+1))).1}):=by unfold frR;rw[if_pos p2]
    rw[e]
    rw[List.isPrefixOf_iff_prefix.2 p2]at hq2
    have h3:=DJ t [] (i+n1+1) {a with path:=(t.drop i).take n1,fK:=true} qD hm
    rcases hx3:a7 [] (t.drop (i+n1+1))with⟨n3,b3⟩
    rw[hx3]at h3
    cases b3<;>repeat' (first|refine Wd ?_|(refine Wc ?_ ?_<;>intro hb<;>try simp at hb)|refine Zw hc (hf:=Qi) (hk:=?_)|refine Zq hc (hf:=Qi) (hk:=?_)|refine Wn ?_|refine aF ([(100000,100000)]) (h1) hc qA qA qA qA qA rfl qA qA rfl qE qE qA qA ?_|refine aF ([(100000,100000)]) (h3) hc qA qA qA qA qA rfl qA qA rfl qE qE qA qA ?_|fail)
    all_goals try contradiction
    all_goals(refine aE [100000] hc (aR rfl) qA qA qJ ?_)
    all_goals(first|(simp;done)|(simp;omega))
   ·have e:frR t (i+n1) {a with path:=(t.drop i).take n1}=(true,i+n1,{a with path:=(t.drop i).take n1}):=by unfold frR;rw[if_neg p2]
    rw[e]
    rw[show([35]:Bs).isPrefixOf (t.drop (i+n1))=false by rw[←Bool.not_eq_true,List.isPrefixOf_iff_prefix];exact p2]at hq2
    repeat' (first|refine Wd ?_|(refine Wc ?_ ?_<;>intro hb<;>try simp at hb)|refine Zw hc (hf:=Qi) (hk:=?_)|refine Zq hc (hf:=Qi) (hk:=?_)|refine Wn ?_|refine aF ([(100000,100000)]) (h1) hc qA qA qA qA qA rfl qA qA rfl qE qE qA qA ?_|fail)
    all_goals try contradiction
    (refine aE [100000] hc (aR rfl) qA qA qJ ?_)
    (first|(simp;done)|(simp;omega))
theorem PX (p:UInt8→Bool) (l:Bs):l.take (l.takeWhile p).length=l.takeWhile p:=(List.prefix_iff_eq_take.1 (List.takeWhile_prefix p)).symm
theorem GM (p:UInt8→Bool) (t:Bs) (i:Nat):(t.take (skip p t i)).drop i=(t.drop i).takeWhile p:=by
 unfold skip
 rw[Ny,PX]
theorem AE (t:Bs) (k:Nat) (hk:k≤t.length):Ds (t.drop k)↔(k=t.length∨0≤Lib.indexByte [47,63,35] (t[k]?.getD 0)):=by
 rcases Nat.lt_or_ge k t.length with h|h
 ·rw[mQ t k h]
  have hh:=rG [47,63,35] (t[k]?.getD 0)
  constructor
  ·rintro(e|⟨c,r,e,hc⟩)
   ·cases e
   ·cases e;exact .inr (hh.1 hc)
  ·rintro(e|e)
   ·omega
   ·exact .inr ⟨_,_,rfl,hh.2 e⟩
 ·rw[List.drop_of_length_le h]
  exact⟨fun _=> .inl qD,fun _=> .inl rfl⟩
theorem GN (t:Bs) (k:Nat) (x:Int) (hx:x=k) (hk:k≤t.length):(x==(t.length:Int)||decide (0≤Lib.indexByte [47,63,35] (t[k]?.getD 0)))=decide (Ds (t.drop k)):=by
 rw[Bool.eq_iff_iff,decide_eq_true_iff,AE t k hk]
 subst hx
 simp
 omega
theorem Nz (t:Bs) (i:Nat) (a:Adr) (hi:i≤t.length) (hm:t.length≤4611686018427387904):
 bJ Tryz.prog 270 [.bp 100000 0] (rdr t i a) (.d (tru (plR t i a).1)) (rdr t (((plR t i a).2.1:Nat):Int) (plR t i a).2.2):=by
 refine cY Tryz.func270 rfl qC Tryz.ntmps270 _ rfl qE fun C hc=>?_
 have hE:=Iu (t.drop i) qH
 have hcut:=GM bW t i
 have hsl:=cI bW t i hi
 have hsk:i+((t.drop i).takeWhile bW).length=skip bW t i:=rfl
 have hH:=Ch ((t.drop i).takeWhile bW) qD
 unfold plR
 generalize hn:((t.drop i).takeWhile bW).length=n at hE hsk
 rw[←hsk]at hcut hsl⊢
 have eT:((i:Int)+(n:Int)).toNat=i+n:=by omega
 repeat' (first|refine Wd ?_|(refine Wc ?_ ?_<;>intro hb<;>try simp at hb)|refine Zw hc (hf:=by exact hE) (hk:=?_)|refine Zq hc (hf:=by exact hE) (hk:=?_)|refine Wn ?_|fail)
 (refine dC 16 hc qC qC ?_;try simp only[List.take_succ_cons,List.take_zero,List.drop_succ_cons,List.drop_zero])
 repeat' (first|refine Wd ?_|(refine Wc ?_ ?_<;>intro hb<;>try simp at hb)|refine Wn ?_|fail)
 rw[hcut]
 generalize hh:(t.drop i).takeWhile bW=h at hH hn hcut
 cases hI:e7 h with
 |false=>
  rw[hI]at hH
  rw[if_neg qK]
  repeat' (first|refine Wd ?_|(refine Wc ?_ ?_<;>intro hb<;>try simp at hb)|refine Zw hc (hf:=by exact hH) (hk:=?_)|refine Zq hc (hf:=by exact hH) (hk:=?_)|refine Wn ?_|fail)
  all_goals try contradiction
  (refine aE [100000] hc (aR rfl) qA qA qJ ?_)
  (first|(simp;done)|(simp;omega))
 |true=>
  rw[hI]at hH
  rw[if_pos rfl]
  have hq:=aS (t.drop (i+n)) [58]
  by_cases p1:[58] <+: t.drop (i+n)
  ·rw[List.isPrefixOf_iff_prefix.2 p1]at hq
   rw[if_pos p1]
   have hlt:=As p1
   repeat' (first|refine Wd ?_|(refine Wc ?_ ?_<;>intro hb<;>try simp at hb)|refine Zw hc (hf:=by first|exact hH|exact hq) (hk:=?_)|refine Zq hc (hf:=by first|exact hH|exact hq) (hk:=?_)|refine Wn ?_|fail)
   all_goals try contradiction
   have eT2:((i:Int)+(n:Int)+1).toNat=i+n+1:=by omega
   refine aN (fun j:Nat=>⟨[(0,.bp 100000 0),(4,.d (int j))],rdr t ((i:Int)+n+1) {a with host:=h}⟩) (fun j=>i+n+1≤j∧j≤t.length∧skip bE t (i+n+1)=skip bE t j) (fun j=>t.length-j) (i+n+1) qH (aG [0,4] [100000] qA qA) ?_
   rintro j ⟨h1,h2,h3⟩
   have hs:=fun h=>rC bE t j h
   have hend:=fun h=>Ak bE t j h
   have hdg:=dQ (t[j]?.getD 0)
   repeat' (first|refine Wd ?_|(refine Wc ?_ ?_<;>intro hb<;>try simp at hb)|refine Zw hc (hf:=by exact hdg) (hk:=?_)|refine Zq hc (hf:=by exact hdg) (hk:=?_)|refine Wn ?_|fail)
   ·refine⟨j+1,⟨qD,qD,?_⟩,qD,aC [0,4] [100000] qA qA qE⟩
    rw[h3,hs hb.1,if_pos hb.2]
   ·have e:skip bE t (i+n+1)=j:=by
     rw[h3]
     by_cases hj:j<t.length
     ·rw[hs hj,if_neg (by rw[hb hj];decide)]
     ·exact hend qD
    rw[e]
    have hcut2:=GM bE t (i+n+1)
    rw[e]at hcut2
    have hP:=Ci ((t.drop (i+n+1)).takeWhile bE) (by rw[←hcut2];simp;omega)
    have he:=AE t j h2
    have hib:=bZ [47,63,35] (t[j]?.getD 0)
    (refine dC 11 hc qC qC ?_;try simp only[List.take_succ_cons,List.take_zero,List.drop_succ_cons,List.drop_zero])
    repeat' (first|refine Wd ?_|(refine Wc ?_ ?_<;>intro hb<;>try simp at hb)|refine Wn ?_|fail)
    rw[eT2,hcut2]
    generalize (t.drop (i+n+1)).takeWhile bE=q at hP hcut2
    by_cases hz:mO q=0
    ·rw[hz]at hP
     rw[if_pos hz]
     repeat' (first|refine Wd ?_|(refine Wc ?_ ?_<;>intro hb<;>try simp at hb)|refine Zw hc (hf:=by exact hP) (hk:=?_)|refine Zq hc (hf:=by exact hP) (hk:=?_)|refine Wn ?_|fail)
     all_goals try contradiction
     (refine aE [100000] hc (aR rfl) qA qA qJ ?_)
     (first|(simp;done)|(simp;omega))
    ·rw[if_neg hz]
     repeat' (first|refine Wd ?_|(refine Wc ?_ ?_<;>intro hb<;>try simp at hb)|refine Zw hc (hf:=by first|exact hP|exact hib) (hk:=?_)|refine Zq hc (hf:=by first|exact hP|exact hib) (hk:=?_)|refine Wn ?_|fail)
     ·exact absurd hb hz
     rw[GN t j j rfl h2]
     (refine aE [100000] hc (aR rfl) qA qA qJ ?_)
     (first|(simp;done)|(simp;omega))
  ·rw[show([58]:Bs).isPrefixOf (t.drop (i+n))=false by rw[←Bool.not_eq_true,List.isPrefixOf_iff_prefix];exact p1]at hq
   rw[if_neg p1]
   have he:=AE t (i+n) hsl
   have hib:=bZ [47,63,35] (t[i+n]?.getD 0)
   repeat' (first|refine Wd ?_|(refine Wc ?_ ?_<;>intro hb<;>try simp at hb)|refine Zw hc (hf:=by first|exact hH|exact hq|exact hib) (hk:=?_)|refine Zq hc (hf:=by first|exact hH|exact hq|exact hib) (hk:=?_)|refine Wn ?_|fail)
   all_goals try contradiction
   rw[GN t (i+n) ((i:Int)+n) qD hsl]
   (refine aE [100000] hc (aR rfl) qA qA qJ ?_)
   (first|(simp;done)|(simp;omega))
abbrev S5 (a:Adr):List D:=[str a.scheme,str a.host,str a.port,str a.path,str a.query,tru a.eI,str a.dH,tru a.fK]
abbrev dI (a:Adr):D:= .agg (S5 a)
@[simp] def JU (x:Adr×Nat×Nat):D:= .tup [dI x.1,int x.2.1,int x.2.2]
theorem S6 (t:Bs) (i:Nat) (a:Adr) (hi:i≤t.length):(plR t i a).2.1≤t.length:=by
 have h1:=cI bW t i hi
 unfold plR
 split
 ·split
  ·rename_i h2
   have:=As h2
   have h3:=cI bE t (skip bW t i+1) qD
   split
   ·simp only;omega
   ·simp only;omega
  ·exact h1
 ·exact hi
theorem sQ: ∀w t:Bs,cG w t≤t.length
 |[],t=>by simp[cG]
 |a::w,[]=>by simp[cG]
 |a::w,b::t=>by
  have:=sQ w t
  simp only[cG]
  split<;>simp<;>omega
theorem IE {t s:Bs} {n:Nat} (h:gV t= .ok (s,n)):n≤t.length:=by
 have h1:=sQ jT t
 have h2:=sQ gC t
 unfold gV at h
 split at h
 ·cases h;omega
 ·split at h
  ·cases h;omega
  ·cases h
theorem DK (t:Bs) (hm:t.length≤9223372036854775807):aJ Tryz.prog 178 [str t] (JU (dR t)):=by
 refine aW Tryz.func178 rfl qC Tryz.ntmps178 _ rfl qE fun C hc=>?_
 by_cases hl:t.length≤2000
 rotate_left
 ·have e:dR t=(Adr.zero,0,2):=by unfold dR;rw[if_pos qD]
  rw[e]
  repeat' (first|refine Wd ?_|(refine Wc ?_ ?_<;>intro hb<;>try simp at hb)|refine Wn ?_|fail)
  ·(refine Zl hc (hr:=?_))
   simp
  ·exfalso;omega
 have hS:=K3 t qD
 unfold Gu at hS
 rcases hx:gV t with k|⟨s,n⟩
 ·have e:dR t=(Adr.zero,k,10):=by
   unfold dR Ao;rw[if_neg qD,hx]
  rw[hx]at hS
  rw[e]
  repeat' (first|refine Wd ?_|(refine Wc ?_ ?_<;>intro hb<;>try simp at hb)|refine Zw hc (hf:=Qf) (hk:=?_)|refine Zq hc (hf:=Qf) (hk:=?_)|refine Wn ?_|fail)
  ·exfalso;omega
  all_goals try contradiction
  (refine Zl hc (hr:=?_))
  simp
 ·rw[hx]at hS
  have hn:=IE hx
  have hR:=PE t s n hx
  have hP:=Nz t n {Adr.zero with scheme:=s} hn qD
  have hk:=S6 t n {Adr.zero with scheme:=s} hn
  rcases hpl:plR t n {Adr.zero with scheme:=s}with⟨b1,k1,a1⟩
  rw[hpl]at hR hP hk
  simp only at hR hP hk
  cases b1 with
  |false=>
   have e:dR t=(Adr.zero,k1,10):=by unfold dR;rw[if_neg qD,hR];rfl
   rw[e]
   repeat' (first|refine Wd ?_|(refine Wc ?_ ?_<;>intro hb<;>try simp at hb)|refine Zw hc (hf:=Qf) (hk:=?_)|refine Zq hc (hf:=Qf) (hk:=?_)|refine Wn ?_|refine aF ([(100000,26)]) (hP) hc qA qA qA qA qA rfl qA qA rfl qE qE qA qA ?_|refine iM hc qA qE ?_|fail)
   ·exfalso;omega
   all_goals try contradiction
   (apply Xd 8 hc;(focus(refine Xp 0 hc (hk:=?_);refine Xm 1 hc (hk:=?_);refine Xp 2 hc (hk:=?_);refine Xp 3 hc (hk:=?_);refine Xa [4,5] (hx:=?_);refine⟨?_,?_⟩;(focus(refine Xw hc (hk:=?_);refine Xa [5] (hx:=?_);(focus(refine Xw hc (hk:=?_);refine Xm 6 hc (hk:=?_);refine Xm 7 hc (hk:=?_);refine Xz (hk:=?_);exact Xk [2,3,4] [2]))));(focus(refine Xw hc (hk:=?_);refine aI 4 [4,6,7] hc rfl qC rfl qA qF qE qA ?_;refine Xm 6 hc (hk:=?_);refine Xm 7 hc (hk:=?_);refine Xz (hk:=?_);exact Xb [2,3,4] [2])))))
   repeat' (first|refine Wd ?_|(refine Wc ?_ ?_<;>intro hb<;>try simp at hb)|refine Wn ?_|fail)
   (refine Zl hc (hr:=?_))
   simp
  |true=>
   have hQ:=PW t k1 a1 hk qD
   rcases hre:reR t k1 a1 with⟨b2,k2,a2⟩
   rw[hre]at hR hQ
   simp only at hR hQ
   cases b2 with
   |false=>
    have e:dR t=(Adr.zero,k2,10):=by unfold dR;rw[if_neg qD,hR];rfl
    rw[e]
    repeat' (first|refine Wd ?_|(refine Wc ?_ ?_<;>intro hb<;>try simp at hb)|refine Zw hc (hf:=Qf) (hk:=?_)|refine Zq hc (hf:=Qf) (hk:=?_)|refine Wn ?_|refine aF ([(100000,26)]) (hP) hc qA qA qA qA qA rfl qA qA rfl qE qE qA qA ?_|refine aF ([(100000,26)]) (hQ) hc qA qA qA qA qA rfl qA qA rfl qE qE qA qA ?_|fail)
    ·exfalso;omega
    all_goals try contradiction
    (apply Xd 8 hc;(focus(refine Xp 0 hc (hk:=?_);refine Xm 1 hc (hk:=?_);refine Xp 2 hc (hk:=?_);refine Xp 3 hc (hk:=?_);refine Xa [4,5] (hx:=?_);refine⟨?_,?_⟩;(focus(refine Xw hc (hk:=?_);refine Xa [5] (hx:=?_);(focus(refine Xw hc (hk:=?_);refine Xm 6 hc (hk:=?_);refine Xm 7 hc (hk:=?_);refine Xz (hk:=?_);exact Xk [2,3,4] [2]))));(focus(refine Xw hc (hk:=?_);refine aI 4 [4,6,7] hc rfl qC rfl qA qF qE qA ?_;refine Xm 6 hc (hk:=?_);refine Xm 7 hc (hk:=?_);refine Xz (hk:=?_);exact Xb [2,3,4] [2])))))
    repeat' (first|refine Wd ?_|(refine Wc ?_ ?_<;>intro hb<;>try simp at hb)|refine Wn ?_|fail)
    (refine Zl hc (hr:=?_))
    simp
   |true=>
    have e:dR t=(a2,0,0):=by unfold dR;rw[if_neg qD,hR];rfl
    rw[e]
    repeat' (first|refine Wd ?_|(refine Wc ?_ ?_<;>intro hb<;>try simp at hb)|refine Zw hc (hf:=Qf) (hk:=?_)|refine Zq hc (hf:=Qf) (hk:=?_)|refine Wn ?_|refine aF ([(100000,26)]) (hP) hc qA qA qA qA qA rfl qA qA rfl qE qE qA qA ?_|refine aF ([(100000,26)]) (hQ) hc qA qA qA qA qA rfl qA qA rfl qE qE qA qA ?_|fail)
    ·exfalso;omega
    all_goals try contradiction
    (refine Zl hc (hr:=?_))
    simp
structure Adr.Fits (a:Adr):Prop where
 scheme:a.scheme.length≤140737488355327
 host:a.host.length≤140737488355327
 port:a.port.length≤140737488355327
 path:a.path.length≤140737488355327
 query:a.query.length≤140737488355327
 dH:a.dH.length≤140737488355327
theorem Lj (a:Adr) (hf:a.Fits):aJ Tryz.prog 133 [dI a] (str (gU a)):=by
 refine aW Tryz.func133 rfl qC Tryz.ntmps133 _ rfl qE fun C hc=>?_
 obtain⟨h1,h2,h3,h4,h5,h6⟩:=hf
 repeat' (first|refine Wd ?_|(refine Wc ?_ ?_<;>intro hb<;>try simp at hb)|refine Wn ?_|fail)
 all_goals rename_i hq
 all_goals(refine Zl hc (hr:=?_))
 all_goals simp[gU,eV,mP,hb,hq]
theorem IF (a:Adr) (hf:a.Fits):(gU a).length≤422212465065984+2:=by
 obtain⟨h1,h2,h3,h4,h5,h6⟩:=hf
 unfold gU eV mP
 split<;>split<;>simp<;>omega
theorem GO (a:Adr) (hf:a.Fits):aJ Tryz.prog 69 [dI a] (str (dF a)):=by
 refine aW Tryz.func69 rfl qC Tryz.ntmps69 _ rfl qE fun C hc=>?_
 have hB:=Lj a hf
 have hl:=IF a hf
 obtain⟨h1,h2,h3,h4,h5,h6⟩:=hf
 repeat' (first|refine Wd ?_|(refine Wc ?_ ?_<;>intro hb<;>try simp at hb)|refine Zw hc (hf:=by exact hB) (hk:=?_)|refine Zq hc (hf:=by exact hB) (hk:=?_)|refine Wn ?_|fail)
 ·(refine Zl hc (hr:=?_))
  simp[dF,eK,hb]
 ·(refine Zl hc (hr:=?_))
  simp[dF,eK,hb]
theorem NA {a:Adr} (h0: ¬Dx a) (h:Dy a):bX a=10:=by unfold bX;rw[if_neg h0,if_pos h]
theorem Se {a:Adr} (h0: ¬Dx a) (h1: ¬Dy a) (h:Gs a):bX a=3:=by unfold bX;rw[if_neg h0,if_neg h1,if_pos h]
theorem Sf {a:Adr} (h0: ¬Dx a) (h1: ¬Dy a) (h2: ¬Gs a):bX a=if 2000<(dF a).length then 2 else 0:=by unfold bX;rw[if_neg h0,if_neg h1,if_neg h2]
theorem DL {a:Adr} (k1:(¬a.path=[]→((a.path[0]?.getD 0).toNat:Int)=47)∧isRow [63] a.path) (k2:isRow [] a.query) (k3:isRow [] a.dH): ¬Dy a:=by
 rintro(h|h|h|h)
 ·have:=k1.1 h.1;have:=h.2;omega
 ·exact h k1.2
 ·exact h k2
 ·exact h k3
theorem NB {a:Adr} (k1: ¬a.query=[]→a.eI=true) (k2: ¬a.dH=[]→a.fK=true): ¬Gs a:=by
 rintro(h|h)
 ·have:=k1 h.1;rw[h.2]at this;cases this
 ·have:=k2 h.1;rw[h.2]at this;cases this
theorem eL (a:Adr) (hf:a.Fits):aJ Tryz.prog 30 [dI a] (int (bX a)):=by
 refine aW Tryz.func30 rfl qC Tryz.ntmps30 _ rfl qE fun C hc=>?_
 have hW:=GO a hf
 obtain⟨h1,h2,h3,h4,h5,h6⟩:=hf
 have hSm:=bP a.scheme qD
 have hHo:=Ch a.host qD
 have hPo:=Ci a.port qD
 have hR1:=tZ a.path [63] qD
 have hR2:=tZ a.query [] qD
 have hR3:=tZ a.dH [] qD
 repeat' (first|refine Wd ?_|(refine Wc ?_ ?_<;>intro hb<;>try simp at hb)|refine Zw hc (hf:=by first|exact hSm|exact hHo|exact hPo) (hk:=?_)|refine Zq hc (hf:=by first|exact hSm|exact hHo|exact hPo) (hk:=?_)|refine Wn ?_|fail)
 all_goals try(exfalso;simp_all;done)
 all_goals skip
 ·have e:bX a=10:=by unfold bX;rw[if_pos (.inl (fun h=>by rcases h with h|h;exact hb.1 h;exact hb.2 h))]
  rw[e]
  (refine Zl hc (hr:=?_))
  simp
 ·have e:bX a=10:=by unfold bX;rw[if_pos (.inr (.inl hb))]
  rw[e]
  (refine Zl hc (hr:=?_))
  simp
 ·have e:bX a=10:=by unfold bX;rw[if_pos (.inr (.inr hb))]
  rw[e]
  (refine Zl hc (hr:=?_))
  simp
 have hS0: ¬Dx a:=by
  rename_i k1 k2
  rintro(h|h|h)
  ·exact h (by
    by_cases e:small a.scheme=[104,116,116,112]
    ·exact .inl e
    ·exact .inr (k1 e))
  ·rw[h]at k2;cases k2
  ·exact hb h.1 h.2
 have hpl: ¬a.path=[]→0<a.path.length:=fun h=>by
  cases e:a.path with
  |nil=>exact absurd e h
  |cons c r=>simp
 repeat' (first|refine Wd ?_|(refine Wc ?_ ?_<;>intro hb<;>try simp at hb)|refine Zw hc (hf:=by first|exact hR1|exact hR2|exact hR3|exact hW) (hk:=?_)|refine Zq hc (hf:=by first|exact hR1|exact hR2|exact hR3|exact hW) (hk:=?_)|refine Wn ?_|fail)
 all_goals try(exfalso;simp_all;done)
 ·rw[NA hS0 (by
   rcases hb with h|h
   ·exact .inl ⟨h.1,qD⟩
   ·exact .inr (.inl h))]
  (refine Zl hc (hr:=?_))
  simp
 ·rw[NA hS0 (.inr (.inr (.inl hb)))]
  (refine Zl hc (hr:=?_))
  simp
 ·rw[NA hS0 (.inr (.inr (.inr hb)))]
  (refine Zl hc (hr:=?_))
  simp
 ·rename_i k1 k2 k3 k4
  rw[Se hS0 (DL k1 k2 k3) (.inl hb)]
  (refine Zl hc (hr:=?_))
  simp
 ·rename_i k1 k2 k3 k4
  rw[Se hS0 (DL k1 k2 k3) (.inr hb)]
  (refine Zl hc (hr:=?_))
  simp
 ·rename_i k1 k2 k3 k4 k5
  rw[Sf hS0 (DL k1 k2 k3) (NB k4 k5),if_pos qD]
  (refine Zl hc (hr:=?_))
  simp
 ·rename_i k1 k2 k3 k4 k5
  rw[Sf hS0 (DL k1 k2 k3) (NB k4 k5),if_neg qD]
  (refine Zl hc (hr:=?_))
  simp
def Cu (a:Adr):Bs×Nat:=if bX a=0 then(dF a,0)else([],bX a)
theorem JV (a:Adr) (hf:a.Fits):aJ Tryz.prog 44 [dI a] (.tup [str (Cu a).1,int (Cu a).2]):=by
 refine aW Tryz.func44 rfl qC Tryz.ntmps44 _ rfl qE fun C hc=>?_
 have hW:=GO a hf
 have hC:=eL a hf
 unfold Cu
 by_cases h:bX a=0
 ·rw[if_pos h]
  rw[h]at hC
  repeat' (first|refine Wd ?_|(refine Wc ?_ ?_<;>intro hb<;>try simp at hb)|refine Zw hc (hf:=qaF) (hk:=?_)|refine Zq hc (hf:=qaF) (hk:=?_)|refine Wn ?_|fail)
  all_goals try contradiction
  (refine Zl hc (hr:=?_))
  simp
 ·rw[if_neg h]
  repeat' (first|refine Wd ?_|(refine Wc ?_ ?_<;>intro hb<;>try simp at hb)|refine Zw hc (hf:=qaF) (hk:=?_)|refine Zq hc (hf:=qaF) (hk:=?_)|refine Wn ?_|fail)
  ·(refine Zl hc (hr:=?_))
   simp
  ·exact absurd hb h
def nQ (last:Bool) (o:List Bs) (p:Bs):List Bs:=
 if p=[46,46]then(if last=true then o.take (o.length-1)++[[]]else o.take (o.length-1))
 else if p=[46]then(if last=true then o++[[]]else o)else o++[p]
def l9 (P:List Bs):Nat→List Bs
 |0=>[]
 |j+1=>nQ (decide (j+1=P.length)) (l9 P j) (P[j]?.getD [])
def gD (s:Bs):Bs:=if s=[]then[]else 47::Lib.join (l9 (Lib.split (s.drop 1) [47]) (Lib.split (s.drop 1) [47]).length) [47]
theorem IG (b:Bool) (o:List Bs) (p x:Bs) (h:x∈nQ b o p):x∈o∨x=p∨x=[]:=by
 unfold nQ at h
 split at h
 ·split at h
  ·rcases List.mem_append.1 h with h|h
   ·exact .inl (List.mem_of_mem_take h)
   ·exact .inr (.inr q8)
  ·exact .inl (List.mem_of_mem_take h)
 ·split at h
  ·split at h
   ·rcases List.mem_append.1 h with h|h
    ·exact .inl h
    ·exact .inr (.inr q8)
   ·exact .inl h
  ·rcases List.mem_append.1 h with h|h
   ·exact .inl h
   ·exact .inr (.inl q8)
theorem GP (P:List Bs) (M:Nat) (hP: ∀j:Nat,(P[j]?.getD []).length≤M): ∀j,∀x∈l9 P j,x.length≤M
 |0,x,h=>by simp[l9]at h
 |j+1,x,h=>by
  rcases IG _ _ _ _ h with h|h|h
  ·exact GP P M hP j x h
  ·rw[h];exact hP j
  ·rw[h];simp
theorem join_le (c:UInt8) (M:Nat): ∀L:List Bs,(∀x∈L,x.length≤M)→(Lib.join L [c]).length≤L.length*(M+1)
 |[],_=>by simp[Lib.join_nil]
 |[x],h=>by
  have:=h x qE
  rw[Lib.join_one]
  simp
  omega
 |x::y::L,h=>by
  have h1:=join_le c M (y::L) (fun z hz=>h z (List.mem_cons_of_mem _ hz))
  have h2:=h x qE
  rw[mR]
  simp only[List.length_append,List.length_cons,List.length_nil]at h1⊢
  rw[show(L.length+1+1)*(M+1)=(L.length+1)*(M+1)+(M+1)by rw[Nat.succ_mul]]
  omega
theorem nR (c:UInt8) (s:Bs): ∀x∈Lib.split s [c],x.length≤s.length:=by
 generalize hn:s.length=n
 induction n using Nat.strongRecOn generalizing s with
 |_ n ih=>
  rcases vY c s with h|⟨x,y,rfl,h⟩
  ·rw[jE c s h];simp;omega
  ·rw[kJ c x y h]
   intro z hz
   simp at hn
   cases hz with
   |head=>omega
   |tail _ hz=>have:=ih y.length qD y rfl z hz;omega
theorem GQ (s:Bs) (hm:s.length≤100000):aJ Tryz.prog 138 [str s] (str (gD s)):=by
 refine aW Tryz.func138 rfl qC Tryz.ntmps138 _ rfl qE fun C hc=>?_
 unfold gD
 by_cases h0:s=[]
 ·subst h0
  rw[if_pos rfl]
  repeat' (first|refine Wd ?_|(refine Wc ?_ ?_<;>intro hb<;>try simp at hb)|refine Wn ?_|fail)
  all_goals try contradiction
  (refine Zl hc (hr:=?_))
  simp
 rw[if_neg h0]
 have hpos:0<s.length:=List.length_pos_iff.2 h0
 have hsp:=mM (s.drop 1) 47 qH
 have hne:=gM 47 (s.drop 1)
 have hlen:=fG (s.drop 1) 47
 have heach:=nR 47 (s.drop 1)
 rw[List.length_drop]at hlen heach
 rw[List.drop_one]at hsp hne hlen heach⊢
 generalize Lib.split s.tail [47]=P at hsp hne hlen heach⊢
 have hP1:1≤P.length:=List.length_pos_iff.2 hne
 have hPm: ∀j:Nat,(P[j]?.getD []).length≤100000:=by
  intro j
  rcases Nat.lt_or_ge j P.length with hj|hj
  ·rw[List.getElem?_eq_getElem hj]
   have:=heach _ (List.getElem_mem hj)
   simp only[Option.getD_some]
   omega
  ·rw[List.getElem?_eq_none hj];simp
 repeat' (first|refine Wd ?_|(refine Wc ?_ ?_<;>intro hb<;>try simp at hb)|refine Zw hc (hf:=by exact hsp) (hk:=?_)|refine Zq hc (hf:=by exact hsp) (hk:=?_)|refine Wn ?_|fail)
 all_goals try contradiction
 refine aN (fun x:Nat×List Bs×Nat=>⟨[(3,.d (cE P)),(4,.os 40000 x.2.2),(12,.d (cE P)),(13,.d (int P.length)),(14,.d (int x.1))],[(40000,.own 9 1 (true,[str []]) (x.2.1.map fun y=>[str y]))]⟩) (fun x=>x.1≤P.length∧x.2.2≤x.2.1.length∧x.2.1.length≤x.1∧x.2.1.take x.2.2=l9 P x.1∧(x.1=P.length→x.2.2=x.2.1.length)) (fun x=>P.length-x.1) (0,[],0) (by first|(simp[l9];done)|(simp[l9];omega)) (cQ [(4,none,40000,9,[str []])] [3,4,12,13,14] [40000] qA qA qA) ?_
 rintro⟨j,es,n⟩ ⟨h1,h2,h3,h4,h5⟩
 simp only at h1 h2 h3 h4 h5⊢
 by_cases hj:j<P.length
 rotate_left
 ·obtain rfl:j=P.length:=by omega
  have hn:=h5 rfl
  rw[hn,List.take_length]at h4
  rw[←h4]
  have hjl:=join_le 47 100000 es (fun x hx=>GP P 100000 hPm P.length x (h4▸hx))
  have hjn:aJ Tryz.prog 142 [.sl es.length fun i=>[str (es[i]?.getD [])],str [47]] (str (Lib.join es [47])):=by
   rw[show(D.sl es.length fun i=>[str (es[i]?.getD [])])=cE es by simp[cE]]
   exact tU es [47] qD qD
  subst hn
  repeat' (first|refine Wd ?_|(refine Wc ?_ ?_<;>intro hb<;>try simp at hb)|refine Zw hc (hf:=by exact hjn) (hk:=?_)|refine Zq hc (hf:=by exact hjn) (hk:=?_)|refine Wn ?_|fail)
  all_goals try(exfalso;omega)
  (refine Zl hc (hr:=?_))
  simp
 have hst:l9 P (j+1)=nQ (decide (j+1=P.length)) (l9 P j) (P[j]?.getD []):=rfl
 rw[←h4]at hst
 have eM:(if 1<(n:Int)then(n:Int)-1 else 0).toNat=n-1:=by split<;>omega
 have htk:(es.take n).length=n:=by simp;omega
 have htt:(es.take n).take (n-1)=es.take (n-1):=by rw[List.take_take];congr 1;omega
 unfold nQ at hst
 rw[htk,htt]at hst
 repeat' (first|refine Wd ?_|(refine Wc ?_ ?_<;>intro hb<;>try simp at hb)|refine Wn ?_|fail)
 ·rename_i g1 g2
  rw[if_pos g2,if_pos (decide_eq_true qD)]at hst
  refine⟨(j+1,es.take (n-1)++[[]],n-1+1),⟨qH,qH,qH,?_,fun _=>by simp;omega⟩,qH,aC [3,4,12,13,14] [40000] qA qA (by rw[eM];simp[List.map_take])⟩
  simp only
  rw[hst,List.take_of_length_le qH]
 ·rename_i g1 g2
  rw[if_pos g2,if_neg (by rw[decide_eq_false qD];decide)]at hst
  refine⟨(j+1,es,n-1),⟨qH,qH,qH,?_,fun h=>by simp at h;omega⟩,qH,aC [3,4,12,13,14] [40000] qA qA (by rw[eM];simp)⟩
  exact hst.symm
 ·rename_i g1 g2
  rw[if_neg g2,if_neg hb]at hst
  refine⟨(j+1,es.take n++[P[j]?.getD []],n+1),⟨qH,qH,qH,?_,fun _=>by simp;omega⟩,qH,aC [3,4,12,13,14] [40000] qA qA (by simp[List.map_take])⟩
  simp only
  rw[hst,List.take_of_length_le qH]
 ·rename_i g1 g2 g3
  rw[if_neg g2,if_pos g3,if_pos (decide_eq_true qD)]at hst
  refine⟨(j+1,es.take n++[[]],n+1),⟨qH,qH,qH,?_,fun _=>by simp;omega⟩,qH,aC [3,4,12,13,14] [40000] qA qA (by simp[List.map_take])⟩
  simp only
  rw[hst,List.take_of_length_le qH]
 ·rename_i g1 g2 g3
  rw[if_neg g2,if_pos g3,if_neg (by rw[decide_eq_false qD];decide)]at hst
  refine⟨(j+1,es,n),⟨qH,qH,qH,?_,fun h=>by simp at h;omega⟩,qH,aC [3,4,12,13,14] [40000] qA qA qE⟩
  exact hst.symm
 all_goals(exfalso;omega)
def PY (i:Nat) (c:UInt8):Bool:= !jX c&&(decide (i=0)||(!bE c&&decide (c.toNat≠43)&&decide (c.toNat≠45)&&decide (c.toNat≠46)))
def sR (s:Bs) (i:Nat):Bs:=if i<s.length then(if(s[i]?.getD 0).toNat=58 then s.take i else if PY i (s[i]?.getD 0)=true then[]else sR s (i+1))else[]
termination_by s.length-i
theorem GR (s:Bs) (i:Nat):(sR s i).length≤s.length:=by
 rw[sR]
 split
 ·split
  ·simp;omega
  ·split
   ·simp
   ·exact GR s (i+1)
 ·simp
termination_by s.length-i
theorem PZ (s:Bs) (hm:s.length≤9223372036854775807):aJ Tryz.prog 247 [str s] (str (sR s 0)):=by
 refine aW Tryz.func247 rfl qC Tryz.ntmps247 _ rfl qE fun C hc=>?_
 repeat' (first|refine Wd ?_|(refine Wc ?_ ?_<;>intro hb<;>try simp at hb)|refine Wn ?_|fail)
 refine aN (fun j:Nat=>⟨[(0,.d (str s)),(6,.d (int s.length)),(7,.d (int j))],[]⟩) (fun j=>j≤s.length∧sR s 0=sR s j) (fun j=>s.length-j) 0 qE (aG [0,6,7] [] qA qA) ?_
 rintro j ⟨hj,hA⟩
 have hst:sR s j=if j<s.length then(if(s[j]?.getD 0).toNat=58 then s.take j else if PY j (s[j]?.getD 0)=true then[]else sR s (j+1))else[]:=by rw[sR]
 have hL:=fP (s[j]?.getD 0)
 have hG:=dQ (s[j]?.getD 0)
 have hK:PY j (s[j]?.getD 0)=true↔jX (s[j]?.getD 0)=false∧(j=0∨(bE (s[j]?.getD 0)=false∧(s[j]?.getD 0).toNat≠43∧(s[j]?.getD 0).toNat≠45∧(s[j]?.getD 0).toNat≠46)):=by simp[PY,and_assoc]
 repeat' (first|refine Wd ?_|(refine Wc ?_ ?_<;>intro hb<;>try simp at hb)|refine Zw hc (hf:=by first|exact hL|exact hG) (hk:=?_)|refine Zq hc (hf:=by first|exact hL|exact hG) (hk:=?_)|refine Wn ?_|fail)
 ·rw[hA,hst,if_pos qD,if_pos qD]
  (refine Zl hc (hr:=?_))
  simp
 ·rw[hA,hst,if_pos qD,if_neg qD,if_pos (hK.2 ⟨hb.1,hb.2.imp id fun h=>⟨h.1.1.1,qD,qD,qD⟩⟩)]
  (refine Zl hc (hr:=?_))
  simp
 ·refine⟨j+1,⟨qD,?_⟩,qD,aC [0,6,7] [] qA qA qE⟩
  rw[hA,hst,if_pos qD,if_neg qD,if_neg]
  intro h
  obtain⟨h1,h2⟩:=hK.1 h
  obtain⟨h3,h4⟩:=hb h1
  rcases h2 with e|e
  ·exact h3 e
  ·have:=h4 e.1 qD qD
   omega
 ·rw[hA,hst,if_neg qD]
  (refine Zl hc (hr:=?_))
  simp
def lkK (p:Bs):Nat:=(Lib.lastIndexByte (bs p) 47+1).toNat
theorem NC (p:Bs):Lib.lastIndexByte (bs p) 47=(lkK p:Int)-1∧lkK p≤p.length:=by
 have h: ∃k:Nat,Lib.lastIndexByte (bs p) 47=(k:Int)-1∧k≤p.length:=by
  unfold Lib.lastIndexByte
  rcases Lib.lastIdx_spec (bs p) 47 (bs p).size with⟨h,_⟩|⟨i,h1,h2,_⟩
  ·exact⟨0,by rw[h];rfl,Nat.zero_le _⟩
  ·exact⟨i+1,by rw[h2];omega,by simp at h1;omega⟩
 obtain⟨k,h1,h2⟩:=h
 have e:lkK p=k:=by unfold lkK;rw[h1];omega
 rw[e]
 exact⟨h1,h2⟩
theorem Lk (s:Bs) (c:UInt8) (hs:s.length<4611686018427387904):aJ Tryz.prog 144 [str s,u8 c] (int (Lib.lastIndexByte (bs s) c.toNat)):=
 dL [.string (bs s),.int .u8 c.toNat] qC fun w _=>Tryz.strings_LastIndexByte (bs s) c.toNat Qx w
theorem DM (c:UInt8) (s:Bs):(Lib.cut s [c]).1.length≤s.length∧(Lib.cut s [c]).2.1.length≤s.length:=by
 unfold Lib.cut
 split
 ·constructor
  ·simp;omega
  ·simp
 ·simp
def JW (p q:Bs):Bs:=if q=[]then p else if(q[0]?.getD 0).toNat=47 then q else if((p.take (lkK p)++q)[0]?.getD 0).toNat=47 then p.take (lkK p)++q else 47::(p.take (lkK p)++q)
theorem Ll (p q:Bs):(JW p q).length≤p.length+q.length+1:=by
 have h:(p.take (lkK p)).length≤p.length:=by simp;omega
 unfold JW
 (repeat' split)<;>first|omega|(simp only[List.length_append,List.length_cons];omega)
def nS (s:Bs):Bs×Bs×Bool:=Lib.cut s [35]
def nT (s:Bs):Bs×Bs×Bool:=Lib.cut (nS s).1 [63]
def jF (b:Adr) (s:Bs):Adr:=
 ⟨b.scheme,b.host,b.port,JW b.path (nT s).1,if(nT s).1=[]∧(nT s).2.2=false then b.query else(nT s).2.1,if(nT s).1=[]∧(nT s).2.2=false then b.eI else(nT s).2.2,(nS s).2.1,(nS s).2.2⟩
theorem Lm (b:Adr) (s:Bs) (hp:b.path.length≤100000) (hs:s.length≤100000):aJ Tryz.prog 249 [dI b,str s] (dI (jF b s)):=by
 refine aW Tryz.func249 rfl qC Tryz.ntmps249 _ rfl qE fun C hc=>?_
 have hc1:aJ Tryz.prog 106 [str s,str [35]] (.tup [str (nS s).1,str (nS s).2.1,tru (nS s).2.2]):=sL s 35 qD
 have l1:(nS s).1.length≤s.length∧(nS s).2.1.length≤s.length:=DM 35 s
 have hc2:aJ Tryz.prog 106 [str (nS s).1,str [63]] (.tup [str (nT s).1,str (nT s).2.1,tru (nT s).2.2]):=sL (nS s).1 63 qD
 have l2:(nT s).1.length≤(nS s).1.length∧(nT s).2.1.length≤(nS s).1.length:=DM 63 (nS s).1
 unfold jF JW
 generalize nT s=q at hc2 l2⊢
 generalize nS s=f at hc1 hc2 l1 l2⊢
 obtain⟨q1,q2,q3⟩:=q
 obtain⟨f1,f2,f3⟩:=f
 simp only at hc1 hc2 l1 l2⊢
 have hB:aJ Tryz.prog 144 [str b.path,u8 47] (int ((lkK b.path:Int)-1)):=by rw[←(NC b.path).1];exact Lk b.path 47 qD
 have hk:=(NC b.path).2
 generalize lkK b.path=k at hB hk⊢
 by_cases hq:q1=[]
 ·subst hq
  repeat' (first|refine Wd ?_|(refine Wc ?_ ?_<;>intro hb<;>try simp at hb)|refine Zw hc (hf:=Qj) (hk:=?_)|refine Zq hc (hf:=Qj) (hk:=?_)|refine Wn ?_|fail)
  ·(apply Xd 8 hc;(focus(refine Xp 0 hc (hk:=?_);refine Xp 2 hc (hk:=?_);refine aI 1 [1,4,5,6,7] hc rfl qC rfl qA qF qE qA ?_;refine Xp 4 hc (hk:=?_);refine Xa [3,5] (hx:=?_);refine⟨?_,?_⟩;(focus(refine Xw hc (hk:=?_);refine Xa [5] (hx:=?_);(focus(refine Xw hc (hk:=?_);refine Xp 6 hc (hk:=?_);refine Xa [7] (hx:=?_);(focus(refine Xw hc (hk:=?_);refine Xz (hk:=?_);exact Xk [4,5] [4,5]))))));(focus(refine Xw hc (hk:=?_);refine aI 3 [3,6,7] hc rfl qC rfl qA qF qE qA ?_;refine Xp 6 hc (hk:=?_);refine Xa [7] (hx:=?_);(focus(refine Xw hc (hk:=?_);refine Xz (hk:=?_);exact Xb [4,5] [4,5])))))))
   repeat' (first|refine Wd ?_|(refine Wc ?_ ?_<;>intro hb<;>try simp at hb)|refine Wn ?_|fail)
   (refine Zl hc (hr:=?_))
   simp[*]
  ·(refine Zl hc (hr:=?_))
   simp[*]
 ·have hq0:0<q1.length:=List.length_pos_iff.2 hq
  rw[if_neg hq]
  repeat' (first|refine Wd ?_|(refine Wc ?_ ?_<;>intro hb<;>try simp at hb)|refine Zw hc (hf:=Qj) (hk:=?_)|refine Zq hc (hf:=Qj) (hk:=?_)|refine Wn ?_|fail)
  all_goals try contradiction
  all_goals try(exfalso;omega)
  all_goals try((refine Zl hc (hr:=?_));simp[*];done)
  (refine dC 9 hc qC qC ?_;try simp only[List.take_succ_cons,List.take_zero,List.drop_succ_cons,List.drop_zero])
  repeat' (first|refine Wd ?_|(refine Wc ?_ ?_<;>intro hb<;>try simp at hb)|refine Zw hc (hf:=Qj) (hk:=?_)|refine Zq hc (hf:=Qj) (hk:=?_)|refine Wn ?_|fail)
  ·rename_i a1 a2
   rw[if_neg qD,if_neg qD]
   (refine Zl hc (hr:=?_))
   simp[*]
  ·rename_i a1 a2
   rw[if_neg qD,if_pos qD]
   (refine Zl hc (hr:=?_))
   simp[*]
  ·rw[if_pos qD]
   (refine Zl hc (hr:=?_))
   simp[*]
def ND (b:Adr) (t:Bs):Adr×Nat:=
 if t=[]then({b with dH:=[],fK:=false},0)
 else if small (sR t 0)=[]then(if[47,47].isPrefixOf t=true then((dR (b.scheme++58::t)).1,(dR (b.scheme++58::t)).2.2)else(jF b t,0))
 else if small (sR t 0)=[104,116,116,112]∨small (sR t 0)=[104,116,116,112,115]then((dR t).1,(dR t).2.2)else(Adr.zero,4)
def DN (x:Adr×Nat):Adr×Nat:=if x.2≠0 then(Adr.zero,x.2)else if bX x.1≠0 then(Adr.zero,bX x.1)else({x.1 with path:=gD x.1.path},0)
def nU (s:Bs):Bs:=Lib.trimS s [9,10,12,13,32]
def mA (b:Adr) (s:Bs):Adr×Nat:=if bX b≠0 then(Adr.zero,bX b)else if 2000<s.length then(Adr.zero,2)else DN (ND b (nU s))
theorem wG (p:UInt8→Bool): ∀l:Bs,(l.dropWhile p).length≤l.length
 |[]=>Nat.le_refl _
 |c::r=>by
  have:=wG p r
  rw[List.dropWhile_cons]
  split<;>simp<;>omega
theorem IH (s:Bs):(nU s).length≤s.length:=by
 unfold nU Lib.trimS Lib.trimLeftS Lib.trimRightS
 refine Nat.le_trans (wG _ _) ?_
 rw[List.length_reverse]
 refine Nat.le_trans (wG _ _) ?_
 simp
theorem NE (s:Bs) (hm:s.length≤9223372036854775807):aJ Tryz.prog 246 [str s] (str (nU s)):=by
 refine aW Tryz.func246 rfl qC Tryz.ntmps246 _ rfl qE fun C hc=>?_
 have ht:=jI s [9,10,12,13,32] hm qK qK
 repeat' (first|refine Wd ?_|(refine Wc ?_ ?_<;>intro hb<;>try simp at hb)|refine Zw hc (hf:=by exact ht) (hk:=?_)|refine Zq hc (hf:=by exact ht) (hk:=?_)|refine Wn ?_|fail)
 (refine Zl hc (hr:=?_))
 simp[nU]
theorem rI {b:Adr} (h:bX b=0):b.scheme.length≤2000∧b.host.length≤2000∧b.port.length≤2000∧b.path.length≤2000∧b.query.length≤2000∧b.dH.length≤2000:=by
 obtain⟨hA,hl⟩:=(kC b).1 h
 have hw:(dF b).length=b.scheme.length+3+b.host.length+(eK b).length+(b.path.length+(eV b).length+(mP b).length):=by simp[dF,gU];omega
 have h1:b.port.length≤(eK b).length:=by
  unfold eK
  split
  ·rename_i e;simp[e]
  ·simp
 have h2:b.query.length≤(eV b).length:=by
  unfold eV
  split
  ·simp
  ·rename_i hq
   by_cases e:b.query=[]
   ·simp[e]
   ·exact absurd (hA.eI e) hq
 have h3:b.dH.length≤(mP b).length:=by
  unfold mP
  split
  ·simp
  ·rename_i hq
   by_cases e:b.dH=[]
   ·simp[e]
   ·exact absurd (hA.fK e) hq
 omega
theorem sS (b:Adr) (s:Bs) (hbF:b.Fits) (hs:s.length≤9223372036854775807):aJ Tryz.prog 169 [dI b,str s] (.tup [dI (mA b s).1,int (mA b s).2]):=by
 refine aW Tryz.func169 rfl qC Tryz.ntmps169 _ rfl qE fun C hc=>?_
 have hCb:=eL b hbF
 unfold mA
 by_cases hb0:bX b=0
 rotate_left
 ·rw[if_pos hb0]
  repeat' (first|refine Wd ?_|(refine Wc ?_ ?_<;>intro hb<;>try simp at hb)|refine Zw hc (hf:=by exact hCb) (hk:=?_)|refine Zq hc (hf:=by exact hCb) (hk:=?_)|refine Wn ?_|fail)
  all_goals try contradiction
  (refine Zl hc (hr:=?_))
  simp
 rw[if_neg (by simpa using hb0)]
 rw[hb0]at hCb
 obtain⟨p1,p2,p3,p4,p5,p6⟩:=rI hb0
 by_cases hl:2000<s.length
 ·rw[if_pos hl]
  repeat' (first|refine Wd ?_|(refine Wc ?_ ?_<;>intro hb<;>try simp at hb)|refine Zw hc (hf:=by exact hCb) (hk:=?_)|refine Zq hc (hf:=by exact hCb) (hk:=?_)|refine Wn ?_|fail)
  all_goals try contradiction
  all_goals try(exfalso;omega)
  (refine Zl hc (hr:=?_))
  simp
 rw[if_neg hl]
 have hTr:=NE s hs
 have htl:=IH s
 generalize nU s=t at hTr htl⊢
 have hRo:=PZ t qD
 have hrl:=GR t 0
 have hSm:=bP (sR t 0) qD
 have hRd:=DK t qD
 have hRd2:=DK (b.scheme++58::t) qH
 have hMe:=Lm b t qD qD
 have hPr:=aS t [47,47]
 have hC: ∀x:Adr,x.Fits→aJ Tryz.prog 30 [dI x] (int (bX x)):=eL
 have hU: ∀x:Adr,x.path.length≤100000→aJ Tryz.prog 138 [str x.path] (str (gD x.path)):=fun x h=>GQ x.path h
 have fz: ∀u:Bs,(dR u).1.Fits∧(dR u).1.path.length≤100000:=by
  intro u
  rcases Av u with⟨_,h⟩|⟨_,_,h,_⟩
  ·rw[h]
   exact⟨⟨qE,qE,qE,qE,qE,qE⟩,qE⟩
  ·obtain⟨q1,q2,q3,q4,q5,q6⟩:=rI h
   exact⟨⟨qD,qD,qD,qD,qD,qD⟩,qD⟩
 have hne: ¬t=[]→0<t.length:=fun h=>List.length_pos_iff.2 h
 unfold ND
 by_cases ht:t=[]
 ·rw[if_pos ht]
  have hC1:=hC {b with dH:=[],fK:=false} ⟨qH,qH,qH,qH,qH,qE⟩
  have hU1:=hU {b with dH:=[],fK:=false} qH
  subst ht
  repeat' (first|refine Wd ?_|(refine Wc ?_ ?_<;>intro hb<;>try simp at hb)|refine Zw hc (hf:=QS) (hk:=?_)|refine Zq hc (hf:=QS) (hk:=?_)|refine Wn ?_|fail)
  all_goals try(exfalso;omega)
  all_goals try contradiction
  all_goals(refine Zl hc (hr:=?_))
  all_goals simp[DN, *]
 rw[if_neg ht]
 by_cases hs0:small (sR t 0)=[]
 ·rw[if_pos hs0]
  rw[hs0]at hSm
  by_cases hp:[47,47].isPrefixOf t=true
  ·rw[if_pos hp]
   rw[hp]at hPr
   have f2:=fz (b.scheme++58::t)
   generalize dR (b.scheme++58::t)=r at hRd2 f2⊢
   obtain⟨r,n,f⟩:=r
   simp only[JU]at hRd2 f2⊢
   have hC1:=hC r f2.1
   have hU1:=hU r f2.2
   repeat' (first|refine Wd ?_|(refine Wc ?_ ?_<;>intro hb<;>try simp at hb)|refine Zw hc (hf:=Qt) (hk:=?_)|refine Zq hc (hf:=Qt) (hk:=?_)|refine Wn ?_|fail)
   all_goals try(exfalso;omega)
   all_goals try contradiction
   all_goals(refine Zl hc (hr:=?_))
   all_goals simp[DN, *]
  ·rw[if_neg hp]
   rw[Bool.eq_false_iff.2 hp]at hPr
   have fm:(jF b t).Fits∧(jF b t).path.length≤100000:=by
    have l1:(nS t).1.length≤t.length∧(nS t).2.1.length≤t.length:=DM 35 t
    have l2:(nT t).1.length≤(nS t).1.length∧(nT t).2.1.length≤(nS t).1.length:=DM 63 (nS t).1
    have l3:=Ll b.path (nT t).1
    have l4:(if(nT t).1=[]∧(nT t).2.2=false then b.query else(nT t).2.1).length≤2000:=by split<;>omega
    exact⟨⟨QI,QI,QI,QI,QI,QI⟩,QI⟩
   generalize jF b t=r at hMe fm⊢
   have hC1:=hC r fm.1
   have hU1:=hU r fm.2
   repeat' (first|refine Wd ?_|(refine Wc ?_ ?_<;>intro hb<;>try simp at hb)|refine Zw hc (hf:=Qv) (hk:=?_)|refine Zq hc (hf:=Qv) (hk:=?_)|refine Wn ?_|fail)
   all_goals try(exfalso;omega)
   all_goals try contradiction
   all_goals(refine Zl hc (hr:=?_))
   all_goals simp[DN, *]
 rw[if_neg hs0]
 have f1:=fz t
 generalize dR t=r at hRd f1⊢
 obtain⟨r,n,f⟩:=r
 simp only[JU]at hRd f1⊢
 have hC1:=hC r f1.1
 have hU1:=hU r f1.2
 generalize small (sR t 0)=sm at hSm hs0⊢
 by_cases hh:sm=[104,116,116,112]∨sm=[104,116,116,112,115]
 ·rw[if_pos hh]
  rcases hh with rfl|rfl
  all_goals repeat' (first|refine Wd ?_|(refine Wc ?_ ?_<;>intro hb<;>try simp at hb)|refine Zw hc (hf:=QF) (hk:=?_)|refine Zq hc (hf:=QF) (hk:=?_)|refine Wn ?_|fail)
  all_goals try(exfalso;omega)
  all_goals try contradiction
  all_goals(refine Zl hc (hr:=?_))
  all_goals simp[DN, *]
 ·rw[if_neg hh]
  obtain⟨hh1,hh2⟩:=not_or.1 hh
  repeat' (first|refine Wd ?_|(refine Wc ?_ ?_<;>intro hb<;>try simp at hb)|refine Zw hc (hf:=by first|exact hCb|exact hTr|exact hRo|exact hSm) (hk:=?_)|refine Zq hc (hf:=by first|exact hCb|exact hTr|exact hRo|exact hSm) (hk:=?_)|refine Wn ?_|fail)
  all_goals try(exfalso;omega)
  all_goals try contradiction
  all_goals try(exfalso;simp_all;done)
  all_goals(refine Zl hc (hr:=?_))
  all_goals simp[DN]
end Go.Proofs.YtdjfgcjlnfnfhaaGreatDoor
