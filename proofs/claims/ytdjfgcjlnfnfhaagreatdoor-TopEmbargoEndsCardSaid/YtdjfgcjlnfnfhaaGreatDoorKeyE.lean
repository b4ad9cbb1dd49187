/- ADDRESS: Key by rules, on both sides; AddressKeysMatchSpec's own walk. (WITH run_drawN.) -/
import Derived.Test.YtdjfgcjlnfnfhaaGreatDoorDkB
import Derived.Test.YtdjfgcjlnfnfhaaGreatDoorAdA
import Derived.Shelf.Strings.IndexAnyAll
import Derived.Test.YtdjfgcjlnfnfhaaGreatDoorKeyP
import Derived.Test.YtdjfgcjlnfnfhaaGreatDoorMsB
import Derived.Test.YtdjfgcjlnfnfhaaGreatDoorLkA
import Derived.Test.YtdjfgcjlnfnfhaaGreatDoorLwTail
import Derived.Test.YtdjfgcjlnfnfhaaGreatDoorMsH
import Derived.Lib.AppendIntMem
import Derived.Test.YtdjfgcjlnfnfhaaGreatDoorMsE
import Derived.Sort.Walk0
set_option linter.unusedSimpArgs false
set_option linter.unusedVariables false
namespace Go.Proofs.YtdjfgcjlnfnfhaaGreatDoor
open Go.Lw Go.RowKit
set_option maxRecDepth 100000
set_option maxHeartbeats 8000000
theorem RM (e:En) (pre:Bs) (en at':Int) (b:Bool) (h:aJ Tryz.prog 26 [s7,u9 pre en,Hv,BQ e.key e.time,int at'] (.tup [tru b,int 0])):
 aJ Tryz.prog 29 [e.d,.ip [s7] 0,.ip [u9 pre en] 0,.ip [str [97,110,110],tru true] 0,.ip [int at'] 0] (tru (!b)):=by
 refine aW Tryz.func29 rfl qC Tryz.ntmps29 _ rfl qE fun C hc=>?_
 repeat' (first|refine Wd ?_|(refine Wc ?_ ?_<;>intro hb<;>try simp at hb)|refine Zw hc (hf:=Qc) (hk:=?_)|refine Zq hc (hf:=Qc) (hk:=?_)|refine Wo ?_|fail)
 (refine Zl hc (hr:=?_))
 simp
abbrev wX (pre:Bs) (en at':Int) (e:En):Bool:=pre.isPrefixOf e.key&&decide (at'<en)
def Ss (s:Sto) (pre:Bs) (en at':Int) (d:D):Prop:=(∃e:Int,d= .tup [.agg [noS,noS,noS],int e]∧e≠0)∨ ∃(Z S:List En) (M:List Fi),d= .tup [.agg [.sl S.length fun i=>(Z[i]?.getD En0).row,.sl s.nf fun i=>(M[i]?.getD Fi0).row,DF s.R],int 0]∧(∀i,i<S.length→Z[i]?=S[i]?)∧(∀i,i<s.nf→M[i]?=some (s.fi i))∧S=stN ((List.range s.ne).map s.en) (wX pre en at')
theorem Ma (s:Sto) (hs:s.Fit) (pre:Bs) (hp:pre.length≤9223372036854775807) (en at':Int):aV Tryz.prog 8 [s.d,s7,u9 pre en,Hv,int at'] (Ss s pre en at'):=by
 obtain⟨f0,hf0,hMay⟩:=L6 pre en at' hp
 obtain⟨b0,hM0,_⟩:=hMay [120] 0 (by unfold Cap;simp)
 refine bI Tryz.func8 rfl qC Tryz.ntmps8 _ rfl qE ?_
 repeat' (first|refine Va ?_|(with_reducible refine aB (ht:=fun hb=>?_) (hf:=fun hb=>?_)<;>(try simp at hb))|refine Vn ?_|refine Vl (hG:=?_)|(refine Ve (hf:=u7 s hs) (hk:=?_);rintro _ ⟨e,rfl,he⟩)|refine Vc (hf:=by exact hM0) (h:=?_)|fail)
 ·exact .inl ⟨_,rfl,qN⟩
 ·exact .inl ⟨_,rfl,qN⟩
 obtain⟨L,hL⟩:=he qN
 obtain rfl:f0=0:=by assumption
 have hCo:=OA s L hL
 have hCp: ∀e∈(List.range s.ne).map s.en,aJ Tryz.prog 29 [e.d,.ip [s7] 0,.ip [u9 pre en] 0,.ip [str [97,110,110],tru true] 0,.ip [int at'] 0] (tru (wX pre en at' e)):=fun e he=>by
  obtain⟨i,hi,rfl⟩:=List.mem_map.1 he
  have hO:=hL.en i qU
  obtain⟨b,h1,h2⟩:=hMay (s.en i).key (s.en i).time ⟨hO.key.1,hO.key.2.1,hO.key.2.2,hO.time.1,hO.time.2⟩
  have h3:=RM (s.en i) pre en at' b h1
  rw[h2 rfl,Bool.not_not]at h3
  exact h3
 have hDe:=RJ ((List.range s.ne).map s.en) (wX pre en at') _ _ _ _ hCp (by have:=hL.ne;simpa using this)
 obtain⟨E,hEe⟩: ∃E,(List.range s.ne).map s.en=E:=⟨_,rfl⟩
 obtain⟨M,hM⟩: ∃M,(List.range s.nf).map s.fi=M:=⟨_,rfl⟩
 have hEl:E.length=s.ne:=by rw[←hEe];simp
 have hMi: ∀i,i<s.nf→M[i]?=some (s.fi i):=fun i hi=>by rw[←hM];simp[hi]
 unfold Ss
 rw[hEe]at hCo hDe⊢
 rw[hM]at hCo
 rw[hEl]at hDe
 obtain⟨Z,hZ⟩: ∃Z,stN E (wX pre en at')++List.replicate (s.ne-(stN E (wX pre en at')).length) En0=Z:=⟨_,rfl⟩
 have hZl:(stN E (wX pre en at')).length≤Z.length:=by rw[←hZ];simp
 have hZn:s.ne≤Z.length:=by rw[←hZ,List.length_append,List.length_replicate];omega
 have hZi: ∀i,i<(stN E (wX pre en at')).length→Z[i]?=(stN E (wX pre en at'))[i]?:=fun i hi=>by rw[←hZ,List.getElem?_append_left hi]
 rw[hZ]at hDe
 generalize stN E (wX pre en at')=S at hDe hZl hZi⊢
 repeat' (first|refine Va ?_|(with_reducible refine aB (ht:=fun hb=>?_) (hf:=fun hb=>?_)<;>(try simp at hb))|refine Vn ?_|refine Vl (hG:=?_)|(refine Vm ([(40,43)]) (hf:=hCo.mx) (hk:=?_);rintro _ _ ⟨⟩;refine⟨_,_,qE,qA,qA,?_⟩)|fail)
 refine Vsw 6 ?_
 refine Vsw 7 ?_
 refine Vsw 8 ?_
 refine Vsw 9 ?_
 (first|refine Va ?_|(with_reducible refine aB (ht:=fun hb=>?_) (hf:=fun hb=>?_)<;>(try simp at hb))|refine Vn ?_|refine Vl (hG:=?_)|(refine Vm ([(100003,43)]) (hf:=hDe.mx) (hk:=?_);rintro _ _ ⟨⟩;refine⟨_,_,qE,qA,qA,?_⟩)|fail)
 refine Vsw 43 ?_ (hp:=?_)
 rotate_left
 ·exact⟨⟨hZn,hZl⟩,hZn⟩
 repeat' (first|refine Va ?_|(with_reducible refine aB (ht:=fun hb=>?_) (hf:=fun hb=>?_)<;>(try simp at hb))|refine Vn ?_|refine Vl (hG:=?_)|fail)
 exact .inr ⟨Z,S,M,rfl,hZi,hMi,rfl⟩
def TA (s:Sto) (l key:Bs) (t dr en at':Int) (d:D):Prop:=(∃(v:Vw) (e:Int),d= .tup [v.d,int e]∧v.found=false∧v.n=0∧(at'<en∨e≠0))∨(¬at'<en∧aJ Tryz.prog 6 [s.d,str l,str key,int t,int dr] d∧Tx s key d)
theorem HA (l:Bs):l.isPrefixOf l=true:=by
 induction l with
 |nil=>rfl
 |cons x l ih=>simp[List.isPrefixOf,ih]
theorem RN (s:Sto) (hs:s.Fit) (hR:pR s) (l:Bs) (hl:l.length≤9223372036854775807) (key:Bs) (hk:key.length≤9223372036854775807) (t dr en at':Int) (Z S:List En) (M:List Fi) (hZ: ∀i,i<S.length→Z[i]?=S[i]?) (hM: ∀i,i<s.nf→M[i]?=some (s.fi i)) (hS:S=stN ((List.range s.ne).map s.en) (wX key en at')):
 aV Tryz.prog 6 [.agg [.sl S.length fun i=>(Z[i]?.getD En0).row,.sl s.nf fun i=>(M[i]?.getD Fi0).row,DF s.R],str l,str key,int t,int dr] (TA s l key t dr en at'):=by
 have hget: ∀i,i<S.length→ ∃j,j<s.ne∧Z[i]?.getD En0=s.en j∧wX key en at' (s.en j)=false:=fun i hi=>by
  have h1:S[i]∈S:=List.getElem_mem hi
  rw[hZ i hi,List.getElem?_eq_getElem hi,Option.getD_some]
  generalize S[i]=x at h1
  rw[hS]at h1
  obtain⟨h2,h3⟩:=List.mem_filter.1 h1
  obtain⟨j,h4,rfl⟩:=List.mem_map.1 h2
  exact⟨j,by simpa using h4,rfl,by rw[Bool.not_eq_true']at h3;exact h3⟩
 by_cases h:at'<en
 ·have hlen:S.length≤s.ne:=by
   rw[hS]
   exact Nat.le_trans (List.length_filter_le _ _) qE
  obtain⟨r,hr,hF⟩:=Ow ⟨S.length,fun i=>Z[i]?.getD En0,s.nf,fun i=>M[i]?.getD Fi0,s.R⟩ ⟨Nat.le_trans hlen hs.ne,fun i hi=>by
   obtain⟨j,h1,h2,_⟩:=hget i hi
   simp only[h2]
   exact hs.en j h1,hs.nf,fun i hi=>by
   simp only[hM i hi,Option.getD_some]
   exact hs.fi i hi,hs.R⟩ (fun a ha=>hR a ha) l hl key hk t dr
  refine⟨r,.inl ?_,hF⟩
  obtain⟨v,e,rfl,_,_,h1,h2,h3⟩:=hr
  have h4:v.found=false:=by
   cases hv:v.found with
   |false=>rfl
   |true=>
    obtain⟨i,hi,hkey⟩:=h3 hv
    obtain⟨j,_,h5,h6⟩:=hget i hi
    simp only at hkey
    rw[h5]at hkey
    simp[wX,hkey,h,HA]at h6
  exact⟨v,e,rfl,h4,h2 h4,.inl h⟩
 ·have hSe:S=(List.range s.ne).map s.en:=by
   rw[hS]
   exact List.filter_eq_self.2 fun x _=>by simp[wX,h]
  obtain⟨r,hr,hF⟩:=Ow s hs hR l hl key hk t dr
  refine⟨r,.inr ⟨h,hF,hr⟩,aJ.args (m:=[s.d,str l,str key,int t,int dr]) rfl (fun i e hi=>?_) hF⟩
  cases i with
  |zero=>
   cases hi
   refine⟨_,rfl,mK rfl fun k x hx=>?_⟩
   have hlen:S.length=s.ne:=by rw[hSe];simp
   match k,hx with
   |0,hx=>
    cases hx
    refine⟨_,rfl,?_⟩
    rw[←hlen]
    refine nJ (fun i hi=>by simp) fun i q d hi hq=>⟨d,?_,cJ.refl _⟩
    rw[←hq,hZ i hi,hSe]
    simp[show i<s.ne by omega]
   |1,hx=>
    cases hx
    refine⟨_,rfl,nJ (fun i hi=>by simp) fun i q d hi hq=>⟨d,?_,cJ.refl _⟩⟩
    rw[←hq,hM i hi,Option.getD_some]
   |2,hx=>exact⟨x,hx,cJ.refl _⟩
   |k+3,hx=>simp at hx
  |succ i=>exact⟨e,qU,cJ.refl _⟩
theorem OB (s:Sto) (hs:s.Fit) (hR:pR s) (l:Bs) (hl:l.length≤9223372036854775807) (key:Bs) (hk:key.length≤9223372036854775807) (t dr en at':Int):
 aV Tryz.prog 4 [s.d,s7,u9 key en,Hv,int at',str l,str key,int t,int dr] (TA s l key t dr en at'):=by
 refine aV.mono (G:=fun d=>TA s l key t dr en at' d∨ ∃c:Int,d= .tup [vwC false noS En0 noS noS 0,int c]∧c≠0) (bI Tryz.func4 rfl qC Tryz.ntmps4 _ rfl qE ?_) ?_
 rotate_left
 ·rintro d (h|⟨c,rfl,hc⟩)
  ·exact⟨d,cJ.refl _,h⟩
  ·exact⟨_,eZ (Hu false En0 0 (bY _) (bY _) (bY _)),.inl ⟨⟨false,[],En0,0,fun _=>0,[],0⟩,c,rfl,rfl,rfl,.inr hc⟩⟩
 repeat' (first|refine Va ?_|(with_reducible refine aB (ht:=fun hb=>?_) (hf:=fun hb=>?_)<;>(try simp at hb))|refine Vn ?_|refine Vl (hG:=?_)|(refine Ve (hf:=Ma s hs key hk en at') (hk:=?_);rintro _ (⟨e,rfl,he⟩|⟨Z,S,M,rfl,hZ,hM,hS⟩))|fail)
 all_goals try contradiction
 ·exact .inr ⟨_,rfl,he⟩
 repeat' (first|refine Va ?_|(with_reducible refine aB (ht:=fun hb=>?_) (hf:=fun hb=>?_)<;>(try simp at hb))|refine Vn ?_|refine Vl (hG:=?_)|(refine Ve (hf:=RN s hs hR l hl key hk t dr en at' Z S M hZ hM hS) (hk:=?_);rintro _ (⟨v,e,rfl,h1,h2,h3⟩|⟨h1,h2,v,e,rfl,h3⟩))|fail)
 ·exact .inl (.inl ⟨v,e,rfl,h1,h2,h3⟩)
 ·exact .inl (.inr ⟨h1,h2,v,e,rfl,h3⟩)
end Go.Proofs.YtdjfgcjlnfnfhaaGreatDoor
namespace Go.Proofs.YtdjfgcjlnfnfhaaGreatDoor
open Go.Lw Go.RowKit Go.Shelf
set_option maxRecDepth 1000000
set_option maxHeartbeats 8000000
section
variable {P:Program} {ρ:Ren}
abbrev Mb (ρ:Ren) (cs:List UInt8) (w:World):World:=(w.alloc (.cells (Lib.setCells cs) (ρ.t 116))).alloc (.cells (Lib.setCells cs) (ρ.t 116))
theorem RO (L:Lays.n153 P ρ) (hv: ∀w,(zeroValue (ρ.t 116)).run P w= .ok (.agg (Array.replicate 256 (.bool false))) w) (hi:(P.info? (ρ.t 116)).map (·.size)=some 256) (s chars:ByteArray) (w:World) (h2:2≤chars.size) (h8:8<s.size)
 (hs:s.size≤9223372036854775807) (hcs:chars.size<4294967281) (hascii: ∀(j:Nat) b,chars.data.toList[j]?=some b→b.toNat<128):
 Calls P (ρ.f 153) #[.string s,.string chars] w fun e w'=>e= .returned (.int .i64 (Lib.indexAny s.data.toList chars.data.toList))∧w'=Mb ρ chars.data.toList w:=by
 have hM:=Any.strings_makeASCIISet {L with} hv hi chars w hcs hascii
 clear hascii
 have hemp:chars.toList.isEmpty=false:=by
  rw[Lib.toList_data]
  cases h:chars.data.toList with
  |nil=>have:=Lib.size_eq chars;rw[h,List.length_nil]at this;omega
  |cons _ _=>rfl
 have hn1:((chars.size:Int)==1)=false:=beq_eq_false_iff_ne.2 qD
 have h8z:decide ((8:Int)<(s.size:Int))=true:=decide_eq_true qD
 have hsz:=Lib.setCells_size chars.data.toList
 have hst:(storeCells ⟨w.heap.size+1,0,none⟩ (Lib.setCells chars.data.toList).toList 0).run P ((w.alloc (.cells (Lib.setCells chars.data.toList) (ρ.t 116))).alloc (.cells (Array.replicate 256 (.bool false)) (ρ.t 116)))= .ok () (Mb ρ chars.data.toList w):=by
  have:=run_storeCells_new (P:=P) (w.alloc (.cells (Lib.setCells chars.data.toList) (ρ.t 116))) (ρ.t 116) (Array.replicate 256 (.bool false)) (Lib.setCells chars.data.toList) (by rw[hsz];exact hi) (by rw[hsz,Array.size_replicate]) (Lib.setCells_one _)
  simpa[Mb]using this
 have hAt:Aside (∀x:UInt8,(Mb ρ chars.data.toList w).cell? ⟨w.heap.size+1,x.toNat,none⟩=some (.bool (chars.data.toList.contains x))):=fun x=>by
  unfold Mb
  rw[World.cell?_alloc_at _ _ _ _ qE,Lib.setCells_at]
 have t3:=L.t3;have a3:=L.a3;have z3:=L.z3;have v3:=L.v3
 have t4:=L.t4;have a4:=L.a4;have z4:=L.z4;have v4:=L.v4
 have t5:=L.t5;have a5:=L.a5;have z5:=L.z5;have v5:=L.v5
 have t9:=L.t9;have a9:=L.a9;have z9:=L.z9;have v9:=L.v9
 have t21:=L.t21;have a21:=L.a21;have z21:=L.z21;have v21:=L.v21
 have t116:=L.t116
 have e226: ∀args w,(callFunc (ρ.f 226) args).run P w= .ok (.enter (ρ.f 226) args) w:=enters_of L.f226 qC rfl
 have e227: ∀args w,(callFunc (ρ.f 227) args).run P w= .ok (.enter (ρ.f 227) args) w:=enters_of L.f227 qC rfl
 have e228: ∀args w,(callFunc (ρ.f 228) args).run P w= .ok (.enter (ρ.f 228) args) w:=enters_of L.f228 qC rfl
 go_enter L.f153,Body.n153_ntmps ρ
 go_wp2_with (first
  |(go_at_fn (ρ.f 226);refine(Any.strings_shouldUseASCIISet {L with} _ _).mono ?_;rintro e w' ⟨rfl,hw⟩;rw[hw,h8z])
  |(go_at_fn (ρ.f 227);refine hM.mono ?_;rintro e w' ⟨rfl,hw⟩;rw[hw]))
 simp only[L.z116,Result.andThen,↓reduceIte,hst]
 rw[Oper.upon_skip]
 go_wp2
 clear hM hst
 go_loopg [8] s.size (fun g s8 wx=> ∃i:Nat,i+g=s.size∧s8= .int .i64 i∧wx=Mb ρ chars.data.toList w∧Lib.NoAny s.data.toList chars.data.toList i)
 case atStart=>exact⟨0,qD,rfl,rfl,Lib.NoAny.zero _ _⟩
 case round=>
  obtain⟨i,hig,rfl,rfl,hno⟩:=hrel
  have HN:Aside (Lib.NoAny s.data.toList chars.data.toList i):=hno
  clear hno
  cases gk with
  |zero=>
   obtain rfl:i=s.size:=by omega
   have hiz: ¬((s.size:Int)<(s.size:Int)):=by omega
   go_wp2
   go_ret
   exact⟨by rw[Lib.indexAny_none (by rw[←Lib.size_eq];exact HN.out)];rfl,rfl⟩
  |succ g=>
   have hi:i<s.size:=by omega
   have hiz:(i:Int)<(s.size:Int):=by omega
   obtain⟨x,hx⟩: ∃x:UInt8,s[i]'hi=x:=⟨_,rfl⟩
   have Hx:Aside (s.data.toList[i]?=some x):=by rw[←hx];exact Lib.data_getElem? s i hi
   have hcx:=hAt.out x
   cases hin:chars.data.toList.contains x<;>rw[hin]at hcx
   ·go_wp2_with (go_at_fn (ρ.f 228);refine(Any.asciiSet_contains {L with} _ x _ _ hcx).mono ?_;rintro e w' ⟨rfl,hw⟩;rw[hw])
    go_roundg g
    case measure=>omega
    case rel=>exact⟨i+1,qD,by first|rfl|simp,rfl,HN.out.succ Hx.out hin⟩
   ·go_wp2_with (go_at_fn (ρ.f 228);refine(Any.asciiSet_contains {L with} _ x _ _ hcx).mono ?_;rintro e w' ⟨rfl,hw⟩;rw[hw])
    go_ret
    exact⟨by rw[Lib.indexAny_hit HN.out Hx.out hin];rfl,rfl⟩
end
theorem Ex (s chars:Bs) (h2:2≤chars.length) (hs:s.length≤9223372036854775807) (hl:chars.length<4294967281) (hs8: ∀b∈s,b.toNat<128) (ha: ∀b∈chars,b.toNat<128):aJ Tryz.prog 134 [str s,str chars] (int (Lib.indexAny s chars)):=by
 refine iA [.string (bs s),.string (bs chars)] qC fun w _=>?_
 have hac: ∀(j:Nat) b,(bs chars).data.toList[j]?=some b→b.toNat<128:=fun j b hb=>ha b (List.mem_of_getElem? hb)
 have has: ∀(j:Nat) b,(bs s).data.toList[j]?=some b→b.toNat<128:=fun j b hb=>hs8 b (List.mem_of_getElem? hb)
 by_cases h8:s.length≤8
 ·refine(Tryz.strings_IndexAny (zero_of_info (n:=256) qC).1 (bs s) (bs chars) w qH hl has hac).mono ?_
  rintro e w' ⟨rfl,h⟩
  exact⟨rfl,h⟩
 ·refine(RO Tryz.Dp (zero_of_info (n:=256) qC).1 qC (bs s) (bs chars) w (by simpa using h2) qH Qx (by simpa using hl) hac).mono ?_
  rintro e w' ⟨rfl,rfl⟩
  exact⟨rfl,((Below.refl _ w).alloc (Nat.le_refl _) _).alloc qE _⟩
theorem yP (s chars:Bs) (h2:2≤chars.length) (hs:s.length≤9223372036854775807) (hl:chars.length<4294967281) (hs8: ∀b∈s,b.toNat<128) (ha: ∀b∈chars,b.toNat<128):aJ Tryz.prog 70 [str s,str chars] (tru (s.any fun c=>chars.contains c)):=by
 have e:(s.any fun c=>chars.contains c)=decide (0≤Lib.indexAny s chars):=by
  clear hs8 hs
  induction s with
  |nil=>rfl
  |cons b l ih=>
   have hge:=Lib.indexAny_ge chars l
   rw[List.any_cons,ih,Lib.indexAny]
   cases chars.contains b with
   |true=>simp
   |false=>
    simp only[Bool.false_or,Bool.false_eq_true,if_false,beq_iff_eq]
    split
    ·rename_i h;rw[h]
    ·rw[decide_eq_decide];omega
 rw[e]
 refine aW Tryz.func70 rfl qC Tryz.ntmps70 _ rfl qE fun C hc=>?_
 have h:=Ex s chars h2 hs hl hs8 ha
 generalize Lib.indexAny s chars=k at h⊢
 repeat' (first|refine Wd ?_|(refine Wc ?_ ?_<;>intro hb<;>try simp at hb)|refine Zw hc (hf:=Qc) (hk:=?_)|refine Zq hc (hf:=Qc) (hk:=?_)|refine Wn ?_|fail)
 (refine Zl hc (hr:=?_))
 simp
end Go.Proofs.YtdjfgcjlnfnfhaaGreatDoor
namespace Go.Proofs.YtdjfgcjlnfnfhaaGreatDoor
open Go.Lw Go.RowKit
set_option maxRecDepth 100000
set_option maxHeartbeats 1000000
def Xo (w s:Bs):Int:=if a7 w s=(s.length,true)then-1 else((a7 w s).1:Int)
def Su (s:Bs):Prop:=s=[]∨(s[0]?.getD 0).toNat=47∧isRow [63] s
instance (s:Bs):Decidable (Su s):=by unfold Su;infer_instance
def udQ (P:List Bs):Nat→List Bs
 |0=>[]
 |j+1=>nQ false (udQ P j) (P[j]?.getD [])
def Wy (F:List Bs) (i:Nat):Bs:=((F.take i).map fun x=>(47:UInt8)::x).flatten
def Xr:Bs:=[104,116,116,112]
def Xt:Bs:=[58,47,47]
def isS (t:Bs):Prop:=4<t.length∧((t[4]?.getD 0).toNat=115∨(t[4]?.getD 0).toNat=83)
def XD (t:Bs):Bs×Nat×Int:=match gV t with
 | .ok (s,n)=>(s,n,-1)
 | .error k=>([],0,k)
end Go.Proofs.YtdjfgcjlnfnfhaaGreatDoor
namespace Go.Proofs.YtdjfgcjlnfnfhaaGreatDoor
open Go.Lw
set_option maxRecDepth 100000
set_option maxHeartbeats 1000000
def XE (x:Bool×Nat×Adr) (b:Int) (a:Adr):Prop:=(b<0∧x.1=true∧x.2.2=a)∨(0≤b∧x.1=false∧(x.2.1:Int)=b)
theorem hw0: ∀c,([]:Bs).contains c=true→bR c=false:=by intro c h;simp at h
section
variable (t:Bs) (i:Nat) (a:Adr)
abbrev u1Q:Bs:=(t.drop i).takeWhile (nw [63,35])
abbrev i1Q:Nat:=skip (nw [63,35]) t i
abbrev b1Q:Int:=Sa (-1) i (u1Q t i)
abbrev u2Q:Bs:=(t.drop (i1Q t i+1)).takeWhile (nw [35])
abbrev i2Q:Nat:=skip (nw [35]) t (i1Q t i+1)
abbrev b2Q:Int:=Sa (b1Q t i) (i1Q t i+1) (u2Q t i)
end
def Xu (t:Bs):Adr×Int:=match Ao t with
 | .ok a=>(a,-1)
 | .error n=>(Adr.zero,n)
end Go.Proofs.YtdjfgcjlnfnfhaaGreatDoor
namespace Go.Proofs.YtdjfgcjlnfnfhaaGreatDoor
open Go.Lw Go.RowKit
set_option maxRecDepth 100000
set_option maxHeartbeats 1000000
def W4:Bs:=[9,10,12,13,32]
end Go.Proofs.YtdjfgcjlnfnfhaaGreatDoor
namespace Go.Proofs.YtdjfgcjlnfnfhaaGreatDoor
open Go.Lw Go.RowKit Go.ChangeShapes Go.WideShapes Go.ChangeAt
set_option maxRecDepth 100000
set_option maxHeartbeats 1000000
def XF (b a:Adr):Bs×Nat:=
 if bX b≠0 then([],bX b)else if bX a≠0 then([],bX a)else if gD a.path≠a.path then([],11)
 else if a.scheme=b.scheme∧a.host=b.host∧a.port=b.port∧a.path≠[]∧ ¬[47,47] <+: a.path then(gU a,0)else(dF a,0)
end Go.Proofs.YtdjfgcjlnfnfhaaGreatDoor
namespace Go.Proofs.YtdjfgcjlnfnfhaaGreatDoor
open Go.Lw Go.RowKit
set_option maxRecDepth 100000
set_option maxHeartbeats 1000000
end Go.Proofs.YtdjfgcjlnfnfhaaGreatDoor
namespace Go.Lw
open Go Go.RowKit
def FnV (P:Program) (f:FuncId) (args:List D) (res:V):Prop:=
 iJ P f=true∧ ∀(ok:Nat→Prop) (w:World) (vs:Array Value),(∀k,ok k→k<w.heap.size)→Std P w→kS w ok args vs→
  Calls P f vs w fun e w'=> ∃v,e= .returned v∧Below w.heap.size w w'∧ ∀h,RdV w' (fresh ok w w') h res v
section
variable {C:Ctx} {P:Program} {nt:Nat} {st st':St} {Q:Exit→St→Prop} {K:St→Prop} {o:Oper} {rest:List Oper} {ops:Array Oper}
end
end Go.Lw
namespace Go.Proofs.YtdjfgcjlnfnfhaaGreatDoor
open Go.Lw Go.RowKit
set_option maxRecDepth 100000
set_option maxHeartbeats 1000000
abbrev W5 (s:Bs):Bs:=s.dropWhile fun c=>decide (c=48)
set_option maxHeartbeats 2000000
def signed (c:UInt8) (M:List Bs) (r:Nat):Bs:=((M.take r).map fun x=>x++[c]).flatten
set_option maxHeartbeats 1000000
abbrev Rul:=Int×Bs
abbrev OC (x:Rul):List D:=[int x.1,str x.2]
abbrev VZ (x:Rul):D:= .agg [int x.1,str x.2]
abbrev nA (L:List Rul):D:= .sl L.length fun i=>[int (L[i]?.getD (0,[])).1,str (L[i]?.getD (0,[])).2]
def Ey (L:List Rul) (s:Rul) (j:Nat):Int:=if j<L.length then(if s=L[j]?.getD (0,[])then(j:Int)else Ey L s (j+1))else-1
termination_by L.length-j
theorem HB (L:List Rul) (s:Rul) (j:Nat):0≤Ey L s j↔s∈L.drop j:=by
 rw[Ey]
 split
 ·rename_i h
  rw[List.drop_eq_getElem_cons h,List.getElem?_eq_getElem h,Option.getD_some]
  split
  ·rename_i hs
   exact⟨fun _=>List.mem_cons.2 (.inl hs),fun _=>by omega⟩
  ·rename_i hs
   rw[HB L s (j+1),List.mem_cons]
   exact⟨.inr,fun h=>h.resolve_left hs⟩
 ·rename_i h
  rw[List.drop_of_length_le qD]
  simp
termination_by L.length-j
theorem TB (a:Int) (b:Bs) (x:Rul):((a,b)=x)↔(a=x.1∧b=x.2):=by rcases x with⟨x1,x2⟩;simp
theorem CR (L:List Rul) (s:Rul) (hm:L.length≤200000):aJ Tryz.prog 215 [nA L,VZ s] (int (Ey L s 0)):=by
 refine aW Tryz.func215 rfl qC Tryz.ntmps215 _ rfl qE fun C hc=>?_
 repeat' (first|refine Wd ?_|(refine Wc ?_ ?_<;>intro hb<;>try simp at hb)|refine Wn ?_|fail)
 refine aN (fun j:Nat=>⟨[(0,.d (nA L)),(3,.bp 3 0),(7,.d (int L.length)),(8,.d (int j))],[(3,.box 159 [.d (int s.1),.d (str s.2)])]⟩) (fun j=>j≤L.length∧Ey L s 0=Ey L s j) (fun j=>L.length-j) 0 qE (aG [0,3,7,8] [3] qA qA) ?_
 rintro j ⟨h1,h2⟩
 have h3:Ey L s j=if j<L.length then(if s=L[j]?.getD (0,[])then(j:Int)else Ey L s (j+1))else-1:=by rw[Ey]
 obtain⟨s1,s2⟩:=s
 simp only[TB]at h3
 repeat' (first|refine Wd ?_|(refine Wc ?_ ?_<;>intro hb<;>try simp at hb)|refine Wn ?_|fail)
 ·rw[h2,h3,if_pos qN,if_pos hb]
  (refine Zl hc (hr:=?_))
  simp
 ·exact⟨j+1,⟨qD,by rw[h2,h3,if_pos qN,if_neg (fun e=>hb e.1 e.2)]⟩,qD,aC [0,3,7,8] [3] qA qA qE⟩
 ·rw[h2,h3,if_neg qD]
  (refine Zl hc (hr:=?_))
  simp
theorem yE (L:List Rul) (s:Rul) (hm:L.length≤200000):aJ Tryz.prog 140 [nA L,VZ s] (tru (decide (s∈L))):=by
 refine aW Tryz.func140 rfl qC Tryz.ntmps140 _ rfl qE fun C hc=>?_
 repeat' (first|refine Wd ?_|(refine Wc ?_ ?_<;>intro hb<;>try simp at hb)|refine Zw hc (hf:=by exact CR L s hm) (hk:=?_)|refine Zq hc (hf:=by exact CR L s hm) (hk:=?_)|refine Wn ?_|fail)
 (refine Zl hc (hr:=?_))
 refine bT ?_
 have:=HB L s 0
 rw[Bool.eq_iff_iff];simpa using this
theorem oB (L:List Rul) (k:Int) (n:Bs) (hm:L.length≤200000):aJ Tryz.prog 76 [nA L,int k,str n] (tru (decide ((k,n)∈L))):=by
 refine aW Tryz.func76 rfl qC Tryz.ntmps76 _ rfl qE fun C hc=>?_
 repeat' (first|refine Wd ?_|(refine Wc ?_ ?_<;>intro hb<;>try simp at hb)|refine Zw hc (hf:=by exact yE L (k,n) hm) (hk:=?_)|refine Zq hc (hf:=by exact yE L (k,n) hm) (hk:=?_)|refine Wn ?_|fail)
 (refine Zl hc (hr:=?_))
 simp
def eB:Bs→Bs
 |[]=>[]
 |c::t=>if c=37 then 37::(t.take 2++eB (t.drop 2))else low c::eB t
termination_by s=>s.length
decreasing_by all_goals simp<;>omega
def OD (s:Bs):Prop:= ∀i,i<s.length→s[i]?.getD 0=37→i+2<s.length
theorem Mc (s:Bs) (i:Nat) (hi:i<s.length) (h:s[i]?.getD 0=37):eB (s.drop i)=(s.drop i).take 3++eB (s.drop (i+3)):=by
 have e:s[i]=37:=by rw[List.getElem?_eq_getElem hi]at h;exact h
 rw[List.drop_eq_getElem_cons hi,eB,if_pos e,e,List.take_succ_cons,List.drop_drop]
 rfl
theorem HC (s:Bs) (i:Nat) (hi:i<s.length) (h:s[i]?.getD 0≠37):eB (s.drop i)=low (s[i]?.getD 0)::eB (s.drop (i+1)):=by
 have e:s[i]=s[i]?.getD 0:=by rw[List.getElem?_eq_getElem hi];rfl
 rw[List.drop_eq_getElem_cons hi,eB,e,if_neg h]
theorem oC: ∀s:Bs,(eB s).length=s.length
 |[]=>by simp[eB]
 |c::t=>by
  rw[eB]
  split
  ·have:=oC (t.drop 2)
   simp only[List.length_cons,List.length_append,this,List.length_take,List.length_drop]
   omega
  ·simp[oC t]
termination_by s=>s.length
decreasing_by all_goals simp<;>omega
structure yQ (s m:Bs) (j:Nat):Prop where
 le:j≤s.length
 len:m.length=s.length
 rest:m.drop j=s.drop j
 done:eB s=m.take j++eB (s.drop j)
theorem yQ.at_ {s m:Bs} {j:Nat} (h:yQ s m j):m[j]?.getD 0=s[j]?.getD 0:=by
 have:=congrArg (fun l:Bs=>l[0]?.getD 0) h.rest
 simpa using this
theorem yQ.pc {s m:Bs} {j:Nat} (h:yQ s m j) (hj:j+2<s.length) (hc:s[j]?.getD 0=37):yQ s m (j+3):=by
 refine⟨qD,h.len,?_,?_⟩
 ·rw[←List.drop_drop,←List.drop_drop,h.rest]
 ·rw[h.done,Mc s j qD hc,List.take_add,h.rest,List.append_assoc]
theorem yQ.set {s m:Bs} {j:Nat} (h:yQ s m j) (hj:j<s.length) (hc:s[j]?.getD 0≠37):yQ s (m.set j (low (s[j]?.getD 0))) (j+1):=by
 have hjm:j<m.length:=by have:=h.len;omega
 refine⟨qD,by simp[h.len],?_,?_⟩
 ·rw[List.drop_set_of_lt qD,←List.drop_drop,h.rest,List.drop_drop]
 ·rw[h.done,HC s j hj hc,List.take_add_one,List.take_set_of_le (Nat.le_refl _)]
  simp[hjm]
theorem yQ.same {s m:Bs} {j:Nat} (h:yQ s m j) (hj:j<s.length) (hc:s[j]?.getD 0≠37) (hl:low (s[j]?.getD 0)=s[j]?.getD 0):yQ s m (j+1):=by
 have e:=h.set hj hc
 rw[hl,←h.at_]at e
 have hjm:j<m.length:=by have:=h.len;omega
 rw[show m.set j (m[j]?.getD 0)=m by simp[hjm]]at e
 exact e
theorem Ko {c:UInt8} (h: ¬(c.toNat:Int)=37):c≠37:=fun e=>h (by rw[e];rfl)
theorem Kp {c:UInt8} (h:(c.toNat:Int)=37):c=37:=by
 have h2:c.toNat=37:=by omega
 exact UInt8.toNat_inj.1 (by rw[h2];rfl)
theorem TC {c:UInt8} (h:65≤(c.toNat:Int)→90<(c.toNat:Int)):low c=c:=by
 unfold low Aj
 rw[if_neg qH]
theorem Ez (s:Bs) (hm:s.length≤100000) (hp:OD s):aJ Tryz.prog 143 [str s] (str (eB s)):=by
 refine aW Tryz.func143 rfl qC Tryz.ntmps143 _ rfl qE fun C hc=>?_
 repeat' (first|refine Wd ?_|(refine Wc ?_ ?_<;>intro hb<;>try simp at hb)|fail)
 refine aN (fun x:Nat×Bs=>⟨[(3,.os 6 x.2.length),(4,.d (int x.1))],[(6,.own 5 1 (false,[.lit (.int .u8 0)]) (x.2.map aZ))]⟩) (fun x=>yQ s x.2 x.1) (fun x=>s.length-x.1) (0,s) ⟨qE,qE,qE,qE⟩ (aG [3,4] [6] qA qA) ?_
 rintro⟨j,m⟩ hI
 simp only at hI⊢
 have ha:=hI.at_
 have hj:=hI.le
 have hml:=hI.len
 have hpj:=hp j
 repeat' (first|refine Wd ?_|(refine Wc ?_ ?_<;>intro hb<;>try simp at hb)|fail)
 ·rw[ha]at hb
  have h2:=hpj qD (Kp hb)
  exact⟨(j+3,m),hI.pc h2 (Kp hb),qH,aC [3,4] [6] qA qA qH⟩
 ·rename_i h37
  rw[ha]at h37
  exact⟨(j+1,m.set j (low (s[j]?.getD 0))),hI.set qD (Ko h37),qH,aC [3,4] [6] qA qA (by
   rw[ha]at hb
   have h5:=MI _ hb
   have h6:((s[j]?.getD 0).toNat:Int)+32=(low (s[j]?.getD 0)).toNat:=by omega
   simp[ha,h6])⟩
 ·rename_i h37
  rw[ha]at h37 hb
  exact⟨(j+1,m),hI.same qD (Ko h37) (TC hb),qH,aC [3,4] [6] qA qA qE⟩
 ·have:=hI.done
  rw[List.take_of_length_le qD,List.drop_of_length_le qD,eB,List.append_nil]at this
  rw[this]
  (refine Zl hc (hr:=?_))
  simp[DR]
def lV (p:Bs):Nat:=(Lib.lastIndexByte (bs p) 47+1).toNat
theorem HD (p:Bs):Lib.lastIndexByte (bs p) 47=(lV p:Int)-1∧lV p≤p.length:=by
 obtain⟨k,h1,h2⟩:=J2 p 47
 have h1':Lib.lastIndexByte (bs p) 47=(k:Int)-1:=h1
 have e:lV p=k:=by unfold lV;rw[h1'];omega
 rw[e]
 exact⟨h1',h2⟩
def dA (p:Bs):Bs:=if 1<p.length∧p[p.length-1]?.getD 0=47 then dA (p.take (p.length-1))else p
termination_by p.length
decreasing_by simp;omega
def s9 (L:List Rul) (p:Bs):Bs:=if p.drop (lV p)≠[]∧(5,p.drop (lV p))∈L then p.take (lV p)else p
def CS (p:Bs) (L:List Rul):Bs:=
 if(4,[])∈L then dA (s9 L (if(3,[])∈L then eB p else p))else s9 L (if(3,[])∈L then eB p else p)
theorem EA {c:UInt8} (h:(c.toNat:Int)=47):c=47:=by
 have h2:c.toNat=47:=by omega
 exact UInt8.toNat_inj.1 (by rw[h2];rfl)
theorem Md (p:Bs) (L:List Rul) (hp:p.length≤100000) (hm:L.length≤200000) (hpc:OD p):aJ Tryz.prog 78 [str p,nA L] (str (CS p L)):=by
 refine aW Tryz.func78 rfl qC Tryz.ntmps78 _ rfl qE fun C hc=>?_
 have hs:=Ez p hp hpc
 have h3:=oB L 3 [] hm
 have h4:=oB L 4 [] hm
 obtain⟨r,hr⟩: ∃r,r=if((3,[]):Rul)∈L then eB p else p:=⟨_,rfl⟩
 have hrl:r.length=p.length:=by rw[hr];split<;>simp[oC]
 unfold CS
 rw[←hr]
 have h5:=oB L 5 (r.drop (lV r)) hm
 have hB:=pQ r 47 qD
 have hB:aJ Tryz.prog 144 [str r,u8 47] (int ((lV r:Int)-1)):=by rw[←(HD r).1];exact pQ r 47 qD
 have hk:=(HD r).2
 have e5:s9 L r=if r.drop (lV r)≠[]∧decide ((5,r.drop (lV r))∈L)=true then r.take (lV r)else r:=by unfold s9;simp
 rw[e5]
 generalize decide ((5,r.drop (lV r))∈L)=b5 at h5⊢
 generalize lV r=k at h5 hB hk⊢
 have e4: ∀x:Bs,(if((4,[]):Rul)∈L then dA x else x)=if decide (((4,[]):Rul)∈L)=true then dA x else x:=by intro x;simp
 rw[e4]
 generalize decide ((4,[])∈L)=b4 at h4⊢
 by_cases b3:((3,[]):Rul)∈L
 ·rw[if_pos b3]at hr
  rw[←hr]at hs
  rw[decide_eq_true b3]at h3
  clear hr
  cases b4
  ·repeat' (first|refine Wd ?_|(refine Wc ?_ ?_<;>intro hb<;>try simp at hb)|refine Zw hc (hf:=Ql) (hk:=?_)|refine Zq hc (hf:=Ql) (hk:=?_)|refine Wn ?_|fail)
   ·rw[if_neg qE,if_pos QM]
    (refine Zl hc (hr:=?_))
    simp
   ·rw[if_neg qE,if_neg QM]
    (refine Zl hc (hr:=?_))
    simp
  ·repeat' (first|refine Wd ?_|(refine Wc ?_ ?_<;>intro hb<;>try simp at hb)|refine Zw hc (hf:=Ql) (hk:=?_)|refine Zq hc (hf:=Ql) (hk:=?_)|refine Wn ?_|fail)
   ·rw[if_pos rfl,if_pos QM]
    have hx0:(r.take k).length≤100000:=by simp;omega
    generalize r.take k=x0 at hx0⊢
    refine aN (fun x:Bs=>⟨[(0,.d (str x))],[]⟩) (fun x=>dA x=dA x0∧x.length≤100000) (fun x=>x.length) x0 ⟨rfl,hx0⟩ (aG [0] [] qA qA) ?_
    rintro x ⟨hs1,hxl⟩
    have hst:dA x=if 1<x.length∧x[x.length-1]?.getD 0=47 then dA (x.take (x.length-1))else x:=by rw[dA]
    repeat' (first|refine Wd ?_|(refine Wc ?_ ?_<;>intro hb<;>try simp at hb)|refine Wn ?_|fail)
    ·refine⟨x.take (x.length-1),⟨?_,qH⟩,qH,aC [0] [] qA qA qE⟩
     rw[←hs1,hst,if_pos ⟨qD,EA hb.2⟩]
    ·rw[←hs1,hst,if_neg (fun e=>hb qD (by rw[e.2];rfl))]
     (refine Zl hc (hr:=?_))
     simp
   ·rw[if_pos rfl,if_neg QM]
    have hx0:r.length≤100000:=by omega
    generalize hxr:r=x0 at hx0⊢
    refine aN (fun x:Bs=>⟨[(0,.d (str x))],[]⟩) (fun x=>dA x=dA x0∧x.length≤100000) (fun x=>x.length) x0 ⟨rfl,hx0⟩ (aG [0] [] qA qA) ?_
    rintro x ⟨hs1,hxl⟩
    have hst:dA x=if 1<x.length∧x[x.length-1]?.getD 0=47 then dA (x.take (x.length-1))else x:=by rw[dA]
    repeat' (first|refine Wd ?_|(refine Wc ?_ ?_<;>intro hb<;>try simp at hb)|refine Wn ?_|fail)
    ·refine⟨x.take (x.length-1),⟨?_,qH⟩,qH,aC [0] [] qA qA qE⟩
     rw[←hs1,hst,if_pos ⟨qD,EA hb.2⟩]
    ·rw[←hs1,hst,if_neg (fun e=>hb qD (by rw[e.2];rfl))]
     (refine Zl hc (hr:=?_))
     simp
 ·rw[if_neg b3]at hr
  subst hr
  rw[decide_eq_false b3]at h3
  clear hs
  cases b4
  ·repeat' (first|refine Wd ?_|(refine Wc ?_ ?_<;>intro hb<;>try simp at hb)|refine Zw hc (hf:=Qw) (hk:=?_)|refine Zq hc (hf:=Qw) (hk:=?_)|refine Wn ?_|fail)
   ·rw[if_neg qE,if_pos QM]
    (refine Zl hc (hr:=?_))
    simp
   ·rw[if_neg qE,if_neg QM]
    (refine Zl hc (hr:=?_))
    simp
  ·repeat' (first|refine Wd ?_|(refine Wc ?_ ?_<;>intro hb<;>try simp at hb)|refine Zw hc (hf:=Qw) (hk:=?_)|refine Zq hc (hf:=Qw) (hk:=?_)|refine Wn ?_|fail)
   ·rw[if_pos rfl,if_pos QM]
    have hx0:(r.take k).length≤100000:=by simp;omega
    generalize r.take k=x0 at hx0⊢
    refine aN (fun x:Bs=>⟨[(0,.d (str x))],[]⟩) (fun x=>dA x=dA x0∧x.length≤100000) (fun x=>x.length) x0 ⟨rfl,hx0⟩ (aG [0] [] qA qA) ?_
    rintro x ⟨hs1,hxl⟩
    have hst:dA x=if 1<x.length∧x[x.length-1]?.getD 0=47 then dA (x.take (x.length-1))else x:=by rw[dA]
    repeat' (first|refine Wd ?_|(refine Wc ?_ ?_<;>intro hb<;>try simp at hb)|refine Wn ?_|fail)
    ·refine⟨x.take (x.length-1),⟨?_,qH⟩,qH,aC [0] [] qA qA qE⟩
     rw[←hs1,hst,if_pos ⟨qD,EA hb.2⟩]
    ·rw[←hs1,hst,if_neg (fun e=>hb qD (by rw[e.2];rfl))]
     (refine Zl hc (hr:=?_))
     simp
   ·rw[if_pos rfl,if_neg QM]
    have hx0:r.length≤100000:=by omega
    generalize hxr:r=x0 at hx0⊢
    refine aN (fun x:Bs=>⟨[(0,.d (str x))],[]⟩) (fun x=>dA x=dA x0∧x.length≤100000) (fun x=>x.length) x0 ⟨rfl,hx0⟩ (aG [0] [] qA qA) ?_
    rintro x ⟨hs1,hxl⟩
    have hst:dA x=if 1<x.length∧x[x.length-1]?.getD 0=47 then dA (x.take (x.length-1))else x:=by rw[dA]
    repeat' (first|refine Wd ?_|(refine Wc ?_ ?_<;>intro hb<;>try simp at hb)|refine Wn ?_|fail)
    ·refine⟨x.take (x.length-1),⟨?_,qH⟩,qH,aC [0] [] qA qA qE⟩
     rw[←hs1,hst,if_pos ⟨qD,EA hb.2⟩]
    ·rw[←hs1,hst,if_neg (fun e=>hb qD (by rw[e.2];rfl))]
     (refine Zl hc (hr:=?_))
     simp
def stays (L:List Rul) (p:Bs):Bool:=decide ((Lib.cut p [61]).1=[])|| !decide ((7,(Lib.cut p [61]).1)∈L)
def tA (q:Bs) (L:List Rul):List Bs:=(Lib.split q [38]).filter (stays L)
def tB (q:Bs) (L:List Rul):Bs:=
 if tA q L=[]then[]else 63::Lib.join (if(6,[])∈L then(tA q L).mergeSort (fun x y=>decide (x≤y))else tA q L) [38]
theorem RP (L:List Bs) (hne:L≠[]) (hl:L.length≤1000000):bJ Tryz.prog 104 [.os 100001 L.length] (pP 100001 L) (.d (.tup [])) (pP 100001 (L.mergeSort fun x y=>decide (x≤y))):=
 Si 100001 L (L.mergeSort fun x y=>decide (x≤y)) hne qE qC fun blk cap w hH hb=>Tryz.slices_Sort_string blk 0 cap L w hH hb qD
theorem HE (q:Bs) (L:List Rul):(tA q L).length≤q.length+2∧ ∀x∈tA q L,x.length≤q.length:=by
 refine⟨Nat.le_trans (List.length_filter_le _ _) (fG q 38),fun x hx=>?_⟩
 have:=nR 38 q x (List.mem_filter.1 hx).1
 omega
theorem Jm (R:List Rul) (L:List Bs) (j:Nat) (h:j<L.length):(L.take (j+1)).filter (stays R)=(L.take j).filter (stays R)++(if stays R (L[j]?.getD [])=true then[L[j]?.getD []]else[]):=by
 rw[List.take_add_one,List.getElem?_eq_getElem h,List.filter_append]
 congr 1
 simp only[Option.toList_some,Option.getD_some,List.filter_cons,List.filter_nil]
theorem Jn (q:Bs) (R:List Rul) (hq:q.length≤100000) (hm:R.length≤200000):aJ Tryz.prog 79 [str q,nA R] (str (tB q R)):=by
 refine aW Tryz.func79 rfl qC Tryz.ntmps79 _ rfl qE fun C hc=>?_
 have hS:=mM q 38 qD
 have hlen:=fG q 38
 have heach:=nR 38 q
 obtain⟨p1,p2⟩:=HE q R
 have h6:=oB R 6 [] hm
 unfold tB
 unfold tA at p1 p2⊢
 generalize Lib.split q [38]=L at hS hlen heach p1 p2⊢
 have e6: ∀x:List Bs,(if((6,[]):Rul)∈R then x.mergeSort (fun x y=>decide (x≤y))else x)=if decide (((6,[]):Rul)∈R)=true then x.mergeSort (fun x y=>decide (x≤y))else x:=by intro x;simp
 rw[e6]
 clear e6
 generalize decide ((6,[])∈R)=b6 at h6⊢
 repeat' (first|refine Wd ?_|(refine Wc ?_ ?_<;>intro hb<;>try simp at hb)|refine Zw hc (hf:=Qf) (hk:=?_)|refine Zq hc (hf:=Qf) (hk:=?_)|refine Wn ?_|fail)
 refine aN (fun x:Nat=>⟨[(1,.d (nA R)),(6,.os 40000 ((L.take x).filter (stays R)).length),(14,.d (cE L)),(15,.d (int L.length)),(16,.d (int x))],[(40000,.own 9 1 (true,[str []]) (((L.take x).filter (stays R)).map fun y=>[str y]))]⟩) (fun x=>x≤L.length) (fun x=>L.length-x) 0 qE (cQ [(6,none,40000,9,[str []])] [1,6,14,15,16] [40000] qA qA qA) ?_
 intro j hj1
 by_cases hlt:j<L.length
 ·have hel:=heach _ (List.getElem_mem hlt)
  have hC:=sL (L[j]?.getD []) 61 QQ
  have h7:=oB R 7 (Lib.cut (L[j]?.getD []) [61]).1 hm
  have e:=Jm R L j hlt
  have hst:stays R (L[j]?.getD [])=(decide ((Lib.cut (L[j]?.getD []) [61]).1=[])|| !decide ((7,(Lib.cut (L[j]?.getD []) [61]).1)∈R)):=rfl
  have hFl:((L.take j).filter (stays R)).length≤j:=Nat.le_trans (List.length_filter_le _ _) qH
  generalize (L.take j).filter (stays R)=F at e hFl⊢
  generalize decide ((7,(Lib.cut (L[j]?.getD []) [61]).1)∈R)=b7 at h7 hst
  generalize Lib.cut (L[j]?.getD []) [61]=z at hC h7 hst
  repeat' (first|refine Wd ?_|(refine Wc ?_ ?_<;>intro hb<;>try simp at hb)|refine Zw hc (hf:=by first|exact hC|exact h7) (hk:=?_)|refine Zq hc (hf:=by first|exact hC|exact h7) (hk:=?_)|refine Wn ?_|fail)
  all_goals try(exfalso;omega)
  ·have hs1:stays R (L[j]?.getD [])=true:=by rw[hst];rcases hb with h|h<;>simp[h]
   rw[if_pos hs1]at e
   exact⟨j+1,qD,qD,aC [1,6,14,15,16] [40000] qA qA (by rw[e];simp)⟩
  ·have hs1:stays R (L[j]?.getD [])=false:=by rw[hst];simp[hb.1,hb.2]
   rw[if_neg (by simp[hs1]),List.append_nil]at e
   exact⟨j+1,qD,qD,aC [1,6,14,15,16] [40000] qA qA (by rw[e];simp)⟩
 ·obtain rfl:j=L.length:=by omega
  rw[List.take_length]
  generalize L.filter (stays R)=F at p1 p2⊢
  by_cases hF:F=[]
  ·rw[if_pos hF]
   subst hF
   repeat' (first|refine Wd ?_|(refine Wc ?_ ?_<;>intro hb<;>try simp at hb)|refine Zw hc (hf:=by exact h6) (hk:=?_)|refine Zq hc (hf:=by exact h6) (hk:=?_)|refine Wn ?_|fail)
   all_goals(refine Zl hc (hr:=?_))
   all_goals simp
  ·rw[if_neg hF]
   have hF1:1≤F.length:=List.length_pos_iff.2 hF
   cases b6
   ·rw[if_neg qE]
    have hjl:=join_le 38 q.length F p2
    have hmu:F.length*(q.length+1)≤100002*100001:=Nat.mul_le_mul qD qD
    have hjl2:(Lib.join F [38]).length≤10000300002:=by omega
    clear hjl hmu
    have hJ:=tU F [38] qD qD
    rw[show cE F=D.sl F.length fun i=>[str (F[i]?.getD [])]by simp[cE]]at hJ
    repeat' (first|refine Wd ?_|(refine Wc ?_ ?_<;>intro hb<;>try simp at hb)|refine Zw hc (hf:=by first|exact h6|exact hJ) (hk:=?_)|refine Zq hc (hf:=by first|exact h6|exact hJ) (hk:=?_)|refine Wn ?_|fail)
    all_goals try contradiction
    all_goals(refine Zl hc (hr:=?_))
    all_goals simp
   ·rw[if_pos rfl]
    have hSo:=RP F hF qD
    have hml:(F.mergeSort fun x y=>decide (x≤y)).length=F.length:=by simp
    have hmm: ∀x∈(F.mergeSort fun x y=>decide (x≤y)),x.length≤q.length:=fun x hx=>p2 x (List.mem_mergeSort.1 hx)
    generalize (F.mergeSort fun x y=>decide (x≤y))=G at hSo hml hmm⊢
    have hjl:=join_le 38 q.length G hmm
    have hmu:G.length*(q.length+1)≤100002*100001:=Nat.mul_le_mul qD qD
    have hjl2:(Lib.join G [38]).length≤10000300002:=by omega
    clear hjl hmu
    have hJ:=tU G [38] qD qD
    rw[show cE G=D.sl G.length fun i=>[str (G[i]?.getD [])]by simp[cE]]at hJ
    repeat' (first|refine Wd ?_|(refine Wc ?_ ?_<;>intro hb<;>try simp at hb)|refine aF ([(100001,40000)]) (hSo) hc qA qA qA qA qA rfl qA qA rfl qE qE qA qA ?_|refine Zw hc (hf:=by exact h6) (hk:=?_)|refine Zq hc (hf:=by exact h6) (hk:=?_)|refine Wn ?_|fail)
    all_goals try contradiction
    rw[←hml]
    repeat' (first|refine Wd ?_|(refine Wc ?_ ?_<;>intro hb<;>try simp at hb)|refine Zw hc (hf:=by exact hJ) (hk:=?_)|refine Zq hc (hf:=by exact hJ) (hk:=?_)|refine Wn ?_|fail)
    all_goals(refine Zl hc (hr:=?_))
    all_goals simp
set_option maxHeartbeats 2000000
def BU:Bs:=[119,119,119,46]
def CT (n:Adr) (R:List Rul):Bs:=if BU <+: n.host∧(2,[])∈R then n.host.drop 4 else n.host
def OE (n:Adr) (R:List Rul):Bs:=gO (CT n R) 46 44++eK n++[41]++(if n.scheme=iP∧(1,[])∉R then[115]else[])++CS n.path R++(if n.eI=true then tB n.query R else[])
theorem Bo: ∀p:Bs,(dA p).length≤p.length:=by
 intro p
 rw[dA]
 split
 ·have:=Bo (p.take (p.length-1))
  simp at this
  omega
 ·exact Nat.le_refl _
termination_by p=>p.length
decreasing_by simp;omega
theorem CU (p:Bs) (R:List Rul):(CS p R).length≤p.length:=by
 have h1: ∀x:Bs,(s9 R x).length≤x.length:=fun x=>by unfold s9;split<;>simp<;>omega
 have h2: ∀c:Prop,∀[Decidable c],(if c then eB p else p).length=p.length:=fun c _=>by split<;>simp[oC]
 unfold CS
 have h3:=h1 (if((3,[]):Rul)∈R then eB p else p)
 have h4:=h2 (((3,[]):Rul)∈R)
 have h5:=Bo (s9 R (if((3,[]):Rul)∈R then eB p else p))
 split<;>omega
theorem Bp (q:Bs) (R:List Rul) (hq:q.length≤100000):(tB q R).length≤10000300003:=by
 obtain⟨p1,p2⟩:=HE q R
 unfold tB
 generalize tA q R=F at p1 p2⊢
 split
 ·simp
 ·have h: ∀G:List Bs,G.length=F.length→(∀x∈G,x.length≤q.length)→(Lib.join G [38]).length≤10000300002:=fun G h1 h2=>by
   have hjl:=join_le 38 q.length G h2
   have hmu:G.length*(q.length+1)≤100002*100001:=Nat.mul_le_mul qD qD
   omega
  split
  ·have:=h (F.mergeSort fun x y=>decide (x≤y)) qE (fun x hx=>p2 x (List.mem_mergeSort.1 hx))
   simp only[List.length_cons]
   omega
  ·have:=h F rfl p2
   simp only[List.length_cons]
   omega
theorem TD (a:Adr) (R:List Rul) (h:bX a=0) (hpc:OD (bQ a).path) (hm:R.length≤200000):aJ Tryz.prog 33 [dI a,nA R] (str (OE (bQ a) R)):=by
 refine aW Tryz.func33 rfl qC Tryz.ntmps33 _ rfl qE fun C hc=>?_
 have hN:=kL a h
 obtain⟨k1,k2,k3,k4⟩:=sT h
 generalize bQ a=n at hN k1 k2 k3 k4 hpc⊢
 have hCP:=fZ n.host BU
 have hP:=Md n.path R qD hm hpc
 have hPl:=CU n.path R
 have hQ:=Jn n.query R qD hm
 have hQl:=Bp n.query R qD
 have h1:=oB R 1 [] hm
 have h2:=oB R 2 [] hm
 have eH:CT n R=if decide (BU <+: n.host)=true∧decide (((2,[]):Rul)∈R)=true then kB n.host BU else n.host:=by
  unfold CT
  by_cases hw:BU <+: n.host
  ·rw[show kB n.host BU=n.host.drop 4 by unfold kB;rw[if_pos hw];rfl]
   simp[hw]
  ·simp[hw]
 have eS:(if n.scheme=iP∧(1,[])∉R then[115]else[])=(if n.scheme=iP∧decide (((1,[]):Rul)∈R)=false then[115]else([]:Bs)):=by simp
 unfold OE
 rw[eH,eS]
 clear eH eS
 have hcl:=G6 n.host BU
 generalize kB n.host BU=ch at hCP hcl⊢
 generalize decide (BU <+: n.host)=bw at hCP⊢
 generalize decide (((2,[]):Rul)∈R)=b2 at h2⊢
 generalize decide (((1,[]):Rul)∈R)=b1 at h1⊢
 generalize CS n.path R=pk at hP hPl⊢
 generalize tB n.query R=qk at hQ hQl⊢
 unfold eK
 unfold BU at hCP
 have hXl:(if bw=true∧b2=true then ch else n.host).length≤2001:=by split<;>omega
 have hT:=wN (if bw=true∧b2=true then ch else n.host) 46 44 qD
 have htl:=pO (if bw=true∧b2=true then ch else n.host) 46 44
 generalize gO (if bw=true∧b2=true then ch else n.host) 46 44=tu at hT htl⊢
 rw[←htl]at hXl
 clear htl
 cases bw<;>cases b2<;>cases b1<;>simp only[and_true,and_false,true_and,false_and,if_true,if_false,Bool.false_eq_true,reduceCtorEq]at hT<;>refine id ?_
 all_goals repeat' (first|refine Wd ?_|(refine Wc ?_ ?_<;>intro hb<;>try simp at hb)|refine Zw hc (hf:=QN) (hk:=?_)|refine Zq hc (hf:=QN) (hk:=?_)|refine Wn ?_|fail)
 all_goals try contradiction
 all_goals(refine Zl hc (hr:=?_))
 all_goals simp_all[iP]
set_option maxHeartbeats 1000000
theorem OG {c:UInt8} (h:bR c=true):c≠37:=by
 rintro rfl
 revert h
 decide
theorem Bq (w:Bs): ∀s:Bs,isRow w s→OD s
 |[],_=>fun i hi=>by simp at hi
 |c::r,h=>by
  unfold isRow at h
  rw[a7.eq_def]at h
  simp only at h
  by_cases h1:w.contains c=true
  ·rw[if_pos h1]at h;simp at h
  rw[if_neg h1]at h
  by_cases h2:oM c=true
  ·rw[if_pos h2]at h;simp at h
  rw[if_neg h2]at h
  by_cases h3:c=37
  ·rw[if_pos h3]at h
   match r,h with
   |[],h=>simp at h
   |[_],h=>simp at h
   |a::b::r2,h=>
    simp only at h
    by_cases h4:bR a=true∧bR b=true
    ·rw[if_pos h4]at h
     have hr:isRow w r2:=by
      unfold isRow
      have e1:=congrArg Prod.fst h
      have e2:=congrArg Prod.snd h
      simp at e1 e2
      exact Prod.ext qH e2
     have ih:=Bq w r2 hr
     intro i hi hc
     match i,hi,hc with
     |0,hi,hc=>simp
     |1,hi,hc=>exact absurd qa1 (OG h4.1)
     |2,hi,hc=>exact absurd qa1 (OG h4.2)
     |i+3,hi,hc=>
      have:=ih i qaQ qa1
      simp
      omega
    ·rw[if_neg h4]at h;simp at h
  ·rw[if_neg h3]at h
   have hr:isRow w r:=by
    unfold isRow
    have e1:=congrArg Prod.fst h
    have e2:=congrArg Prod.snd h
    simp at e1 e2
    exact Prod.ext qH e2
   have ih:=Bq w r hr
   intro i hi hc
   match i,hi,hc with
   |0,hi,hc=>exact absurd qa1 h3
   |i+1,hi,hc=>
    have:=ih i qaQ qa1
    simp
    omega
theorem Me {a:Adr} (h:bX (bQ a)=0):OD (bQ a).path:=Bq [63] _ ((kC _).1 h).1.path
def RQ (c:UInt8):Bool:=decide (c∈([47,63,38,61,37]:Bs))||Aj c
def OH (x:Rul):Bool:=decide (x.1=5)||decide (x.1=7)
def yF (x:Rul):Nat:=if x.1<1∨7<x.1 then 4 else if decide (x.2=[])=OH x∨ ¬isRow [] x.2 then 3 else if x.2.any RQ=true then 3 else 0
def wY (a b:Rul):Prop:=b.1<a.1∨(b.1=a.1∧(Op.bytesLess b.2 a.2=true∨b.2=a.2))
instance (a b:Rul):Decidable (wY a b):=by unfold wY;infer_instance
abbrev bN (R:List Rul) (j:Nat):Rul:=R[j]?.getD (0,[])
def oD (R:List Rul) (j:Nat):Nat:=
 if j<R.length then(if yF (bN R j)≠0 then yF (bN R j)else if 0<j∧wY (bN R (j-1)) (bN R j)then 8 else oD R (j+1))else 0
termination_by R.length-j
def vA (R:List Rul):Nat:=if 50<R.length then 2 else oD R 0
theorem HF (a b:Rul):0≤or2 (Lib.compareInt a.1 b.1) (Lib.compareBytes a.2 b.2)↔wY a b:=by
 unfold or2 wY
 rcases Int.lt_trichotomy a.1 b.1 with h|h|h
 ·rw[show Lib.compareInt a.1 b.1= -1 by unfold Lib.compareInt;rw[if_pos h],if_pos qK]
  constructor
  ·intro e;omega
  ·rintro(e|⟨e,_⟩)<;>omega
 ·rw[show Lib.compareInt a.1 b.1=0 by unfold Lib.compareInt;rw[if_neg qD,if_neg qD],if_neg qK,PS]
  exact⟨fun e=> .inr ⟨h.symm,e⟩,fun e=>e.elim (fun e=>absurd e qD) (·.2)⟩
 ·rw[show Lib.compareInt a.1 b.1=1 by unfold Lib.compareInt;rw[if_neg qD,if_pos qD],if_pos qK]
  exact⟨fun _=> .inl h,fun _=>by decide⟩
abbrev OI:Bs:=[47,63,38,61,37,65,66,67,68,69,70,71,72,73,74,75,76,77,78,79,80,81,82,83,84,85,86,87,88,89,90]
theorem RR: ∀c:UInt8,OI.contains c=RQ c:=by
 have h: ∀i:Fin 256,OI.contains (UInt8.ofNat i.val)=RQ (UInt8.ofNat i.val):=by decide+kernel
 intro c
 have:=h ⟨c.toNat,UInt8.toNat_lt c⟩
 simpa using this
theorem Mf {s:Bs} (h:isRow [] s): ∀b∈s,b.toNat<128:=by
 intro b hb
 have:=nX s h b hb
 simp[oM]at this
 omega
theorem vB (R:List Rul) (hR:R.length≤9223372036854775807) (hn: ∀j,(bN R j).2.length≤4611686018427387904):aJ Tryz.prog 31 [nA R] (int (vA R)):=by
 refine aW Tryz.func31 rfl qC Tryz.ntmps31 _ rfl qE fun C hc=>?_
 unfold vA
 repeat' (first|refine Wd ?_|(refine Wc ?_ ?_<;>intro hb<;>try simp at hb)|refine Wn ?_|fail)
 ·rw[if_pos qD]
  (refine Zl hc (hr:=?_))
  simp
 ·rw[if_neg qD]
  refine aN (fun j:Nat=>⟨[(0,.d (nA R)),(9,.d (nA R)),(10,.d (int R.length)),(11,.d (int j))],[]⟩) (fun j=>j≤R.length∧oD R 0=oD R j) (fun j=>R.length-j) 0 qE (aG [0,9,10,11] [] qA qA) ?_
  rintro j ⟨hj,hA⟩
  have hst:oD R j=if j<R.length then(if yF (bN R j)≠0 then yF (bN R j)else if 0<j∧0≤or2 (Lib.compareInt (bN R (j-1)).1 (bN R j).1) (Lib.compareBytes (bN R (j-1)).2 (bN R j).2)then 8 else oD R (j+1))else 0:=by
   rw[oD]
   by_cases ho:0≤or2 (Lib.compareInt (bN R (j-1)).1 (bN R j).1) (Lib.compareBytes (bN R (j-1)).2 (bN R j).2)
   ·have ho2:=(HF _ _).1 ho
    simp only[ho,ho2,and_true]
   ·have ho2: ¬wY (bN R (j-1)) (bN R j):=fun e=>ho ((HF _ _).2 e)
    simp only[ho,ho2,and_false,if_false]
  by_cases hlt:j<R.length
  rotate_left
  ·repeat' (first|refine Wd ?_|(refine Wc ?_ ?_<;>intro hb<;>try simp at hb)|refine Wn ?_|fail)
   all_goals try contradiction
   all_goals try(exfalso;omega)
   rw[hA,hst,if_neg hlt]
   (refine Zl hc (hr:=?_))
   simp
  rw[if_pos hlt]at hst
  have hI:=tZ (bN R j).2 [] (hn j)
  have hCA:=yP (bN R j).2 OI qE (by have:=hn j;omega) qE
  have hO:=VI (Lib.compareInt (bN R (j-1)).1 (bN R j).1) (Lib.compareBytes (bN R (j-1)).2 (bN R j).2)
  have hc1:=sO (bN R (j-1)).1 (bN R j).1
  have hc2:=gN (bN R (j-1)).2 (bN R j).2
  have hra:=Mf (s:=(bN R j).2)
  simp only[RR]at hCA
  generalize hE:yF (bN R j)=e at hst
  unfold yF OH at hE
  generalize or2 (Lib.compareInt (bN R (j-1)).1 (bN R j).1) (Lib.compareBytes (bN R (j-1)).2 (bN R j).2)=oo at hO hst
  generalize Lib.compareInt (bN R (j-1)).1 (bN R j).1=c1 at hO hc1
  generalize Lib.compareBytes (bN R (j-1)).2 (bN R j).2=c2 at hO hc2
  have eN:(decide ((bN R j).2=[])=(decide ((bN R j).1=5)||decide ((bN R j).1=7)))↔(((bN R j).1==5||(bN R j).1==7)=List.isEmpty (bN R j).2):=by
   generalize bN R j=x
   obtain⟨k,n⟩:=x
   rw[show decide ((k,n).2=[])=List.isEmpty (k,n).2 by cases n<;>rfl]
   exact eq_comm
  have neg {a b:Bool} (h:a= !b): ¬a=b:=fun e=>by
   subst e
   revert h
   cases a<;>decide
  by_cases hrow:isRow [] (bN R j).2
  ·rw[decide_eq_true hrow]at hI
   have hC:=hCA (hra hrow) qK
   generalize List.any (bN R j).2 RQ=an at hC hE
   clear hCA hra
   repeat' (first|refine Wd ?_|(refine Wc ?_ ?_<;>intro hb<;>try simp at hb)|refine Zw hc (hf:=by first|exact hI|exact hC) (hk:=?_)|refine Zq hc (hf:=by first|exact hI|exact hC) (hk:=?_)|refine Wn ?_|fail)
   ·rw[if_pos hb]at hE
    subst hE
    rw[if_pos qK]at hst
    rw[hA,hst]
    (refine Zl hc (hr:=?_))
    simp
   ·rename_i g1
    rw[if_neg (fun h=>by simp only[bN]at h;omega),if_pos (.inl (eN.2 hb))]at hE
    subst hE
    rw[if_pos qK]at hst
    rw[hA,hst]
    (refine Zl hc (hr:=?_))
    simp
   ·rename_i g1 g2
    rw[if_neg (fun h=>by simp only[bN]at h;omega),if_neg (fun h=>h.elim (fun h=>neg g2 (eN.1 h)) (fun h=>h hrow)),if_pos hb]at hE
    subst hE
    rw[if_pos qK]at hst
    rw[hA,hst]
    (refine Zl hc (hr:=?_))
    simp
   ·rename_i g1 g2
    rw[if_neg (fun h=>by simp only[bN]at h;omega),if_neg (fun h=>h.elim (fun h=>neg g2 (eN.1 h)) (fun h=>h hrow)),if_neg Qm]at hE
    subst hE
    rw[if_neg qK]at hst
    clear eN neg hI hC g2 hrow
    by_cases h0:0<j
    ·(refine dC 21 hc qC qC ?_;try simp only[List.take_succ_cons,List.take_zero,List.drop_succ_cons,List.drop_zero])
     repeat' (first|refine lJ ?_|refine dE hc (by simp[h0];exact Ends.go) qG ?_|refine jS hc qC qC (by simp[h0];exact Ends.go) qG ?_|refine iE ?_|refine eA ?_|refine gY ?_|refine fN ?_|refine jO ?_|refine iG ?_|refine jP ?_|refine iF ?_|refine eX ?_|refine jA ?_|refine gW ?_|refine dZ ?_|refine gX ?_|refine eU ?_|refine dV qK ?_|refine lK ?_|refine e9 ?_|refine eY ?_|(refine gK qZ (fun hb=>?_) (fun hb=>?_)<;>(try simp at hb))|refine cP hc qZ qZ qZ qZ qZ (fun _=>by first|exact hc1|exact hc2|exact hO) qE qE ?_|refine cW hc qZ qZ qZ qZ qZ (fun _=>by first|exact hc1|exact hc2|exact hO) qE qE ?_|refine fX hc (by simp[h0];first|exact Ends.go|exact Ends.halt) qK qG ?_|refine dK hc (by simp[h0];first|exact Ends.go|exact Ends.halt) qK qG ?_|refine cH hc (by simp[h0];exact Ends.halt) qG ?_|refine dM hc qC qK qC (by simp[h0];exact Ends.halt) qG ?_|refine iM hc qZ qE ?_|fail)
     ·rw[hA,hst,if_pos ⟨h0,hb⟩]
      (refine Zl hc (hr:=?_))
      simp
     ·exact⟨j+1,⟨qD,by rw[hA,hst,if_neg (fun h=>by omega)]⟩,qD,aC [0,9,10,11] [] qA qA qE⟩
    ·obtain rfl:j=0:=by omega
     rw[if_neg qD]at hst
     (refine dC 21 hc qC qC ?_;try simp only[List.take_succ_cons,List.take_zero,List.drop_succ_cons,List.drop_zero])
     repeat' (first|refine Wd ?_|(refine Wc ?_ ?_<;>intro hb<;>try simp at hb)|refine iM hc qA qE ?_|refine cP hc qA qA qA qA qA (fun _=>by first|exact(show aJ _ _ _ (int 0)from by exfalso;simp_all;done)) qE qE ?_|refine cW hc qA qA qA qA qA (fun _=>by first|exact(show aJ _ _ _ (int 0)from by exfalso;simp_all;done)) qE qE ?_|refine fX hc qQ qK qG ?_|refine dK hc qQ qK qG ?_|refine cH hc Qh qG ?_|refine dM hc qC qK qC Qh qG ?_|fail)
     exact⟨0+1,⟨qD,by rw[hA,hst]⟩,qD,aC [0,9,10,11] [] qA qA qE⟩
   ·exfalso;omega
  ·rw[decide_eq_false hrow]at hI
   clear hCA hra
   repeat' (first|refine Wd ?_|(refine Wc ?_ ?_<;>intro hb<;>try simp at hb)|refine Zw hc (hf:=Qu) (hk:=?_)|refine Zq hc (hf:=Qu) (hk:=?_)|refine Wn ?_|refine iM hc qA qE ?_|fail)
   all_goals try contradiction
   ·rw[if_pos hb]at hE
    subst hE
    rw[if_pos qK]at hst
    rw[hA,hst]
    (refine Zl hc (hr:=?_))
    simp
   ·rename_i g1
    rw[if_neg (fun h=>by simp only[bN]at h;omega),if_pos (.inl (eN.2 hb))]at hE
    subst hE
    rw[if_pos qK]at hst
    rw[hA,hst]
    (refine Zl hc (hr:=?_))
    simp
   ·rename_i g1
    rw[if_neg (fun h=>by simp only[bN]at h;omega),if_pos (.inr hrow)]at hE
    subst hE
    rw[if_pos qK]at hst
    rw[hA,hst]
    (refine Zl hc (hr:=?_))
    simp
   ·exfalso;omega
set_option maxHeartbeats 2000000
abbrev W6 (M:List Bs):D:= .sl M.length fun i=>[str (M[i]?.getD [])]
set_option maxHeartbeats 1000000
def OJ (b:Bool) (M:List Bs) (p:Bs):Nat→Nat
 |0=>0
 |k+1=>if b=true∧Op.bytesLess (M[k]?.getD []) p=false∧M[k]?.getD []≠p then OJ b M p k else k+1
def W7 (b:Bool) (M:List Bs) (p:Bs):List Bs:=M.take (OJ b M p M.length)++p::M.drop (OJ b M p M.length)
def V0 (b:Bool) (R:List Rul) (M:List Bs) (p:Bs):List Bs:=if stays R p=true then W7 b M p else M
def qAt (b:Bool) (R:List Rul) (L:List Bs):Nat→List Bs
 |0=>[]
 |j+1=>V0 b R (qAt b R L j) (L[j]?.getD [])
abbrev Xv (M:List Bs):Prop:=M.Pairwise (fun x y=>x≤y)
set_option maxHeartbeats 2000000
end Go.Proofs.YtdjfgcjlnfnfhaaGreatDoor
namespace Go.Proofs.YtdjfgcjlnfnfhaaGreatDoor
open Go.Lw Go.RowKit Go.ChangeShapes Go.WideShapes Go.ChangeAt
set_option maxRecDepth 100000
set_option maxHeartbeats 2000000
def OK (a:Adr) (R:List Rul):Bs×Nat:=
 if bX a≠0 then([],bX a)else if vA R≠0 then([],vA R)else if bX (bQ a)≠0 then([],bX (bQ a))else(OE (bQ a) R,0)
def oE (R:List Rul):Prop:=R.length≤maxLen∧ ∀x∈R,inR .i64 x.1∧x.2.length≤reachBytes
theorem OL {R:List Rul} (h:oE R) (j:Nat):(bN R j).2.length≤4611686018427387904:=by
 rcases Nat.lt_or_ge j R.length with hj|hj
 ·have:=(h.2 _ (List.getElem_mem hj)).2
  simp only[reachBytes]at this
  simp only[bN,List.getElem?_eq_getElem hj,Option.getD_some]
  omega
 ·simp only[bN,List.getElem?_eq_none hj]
  simp
theorem Kq {R:List Rul} (h:oE R):R.length≤9223372036854775807:=by
 have:=h.1
 simp only[maxLen]at this
 omega
theorem yG (R:List Rul) (j:Nat) (h:oD R j=0): ∀i,j≤i→i<R.length→yF (bN R i)=0:=by
 intro i hji hi
 rw[oD,if_pos qD]at h
 by_cases h1:yF (bN R j)≠0
 ·rw[if_pos h1]at h;exact absurd h h1
 ·rw[if_neg h1]at h
  split at h
  ·cases h
  ·rcases Nat.lt_or_ge j i with h2|h2
   ·exact yG R (j+1) h i qD hi
   ·obtain rfl:i=j:=by omega
    omega
termination_by R.length-j
theorem Mg {R:List Rul} (h:vA R=0):R.length≤200000∧((5,[]):Rul)∉R:=by
 unfold vA at h
 split at h
 ·cases h
 ·refine⟨qD,fun hm=>?_⟩
  obtain⟨i,hi,he⟩:=List.getElem_of_mem hm
  have:=yG R 0 h i qD hi
  simp only[bN,List.getElem?_eq_getElem hi,Option.getD_some,he]at this
  revert this
  decide+kernel
theorem RS (a:Adr) (R:List Rul) (hf:a.Fits) (hR:oE R):aJ Tryz.prog 9 [dI a,nA R] (.tup [str (OK a R).1,int (OK a R).2]):=by
 refine aW Tryz.func9 rfl qC Tryz.ntmps9 _ rfl qE fun C hc=>?_
 have hC:=eL a hf
 have hN:=nW kL a hf
 have hS:=vB R (Kq hR) (OL hR)
 unfold OK
 by_cases h1:bX a=0
 rotate_left
 ·rw[if_pos h1]
  generalize bX a=k at hC h1⊢
  repeat' (first|refine Wd ?_|(refine Wc ?_ ?_<;>intro hb<;>try simp at hb)|refine Zw hc (hf:=qV) (hk:=?_)|refine Zq hc (hf:=qV) (hk:=?_)|refine Wn ?_|fail)
  all_goals try contradiction
  (refine Zl hc (hr:=?_))
  simp
 rw[if_neg (fun h=>h h1)]
 rw[h1]at hC
 by_cases h0:vA R=0
 rotate_left
 ·rw[if_pos h0]
  generalize vA R=k at hS h0⊢
  repeat' (first|refine Wd ?_|(refine Wc ?_ ?_<;>intro hb<;>try simp at hb)|refine Zw hc (hf:=qaG) (hk:=?_)|refine Zq hc (hf:=qaG) (hk:=?_)|refine Wn ?_|fail)
  all_goals try contradiction
  (refine Zl hc (hr:=?_))
  simp
 rw[if_neg (fun h=>h h0)]
 rw[h0]at hS
 obtain⟨h3,h4⟩:=Mg h0
 by_cases h2:bX (bQ a)=0
 ·rw[if_neg (fun h=>h h2)]
  have hK:=TD a R h1 (Me h2) h3
  have e:eF a=(bQ a,0):=by unfold eF;rw[if_neg (fun h=>h h1),if_neg (fun h=>h h2)]
  rw[e]at hN
  generalize OE (bQ a) R=kk at hK⊢
  generalize bQ a=b at hN
  repeat' (first|refine Wd ?_|(refine Wc ?_ ?_<;>intro hb<;>try simp at hb)|refine Zw hc (hf:=q9) (hk:=?_)|refine Zq hc (hf:=q9) (hk:=?_)|refine Wn ?_|fail)
  all_goals try contradiction
  (refine Zl hc (hr:=?_))
  simp
 ·rw[if_pos h2]
  have e:eF a=(Adr.zero,bX (bQ a)):=by unfold eF;rw[if_neg (fun h=>h h1),if_pos h2]
  rw[e]at hN
  generalize bX (bQ a)=k at hN h2⊢
  repeat' (first|refine Wd ?_|(refine Wc ?_ ?_<;>intro hb<;>try simp at hb)|refine Zw hc (hf:=by first|exact hC|exact hS|exact hN) (hk:=?_)|refine Zq hc (hf:=by first|exact hC|exact hS|exact hN) (hk:=?_)|refine Wn ?_|fail)
  all_goals try contradiction
  (refine Zl hc (hr:=?_))
  simp
theorem RT:Opn Tryz.prog 159 OC (fun x:Rul=>inR .i64 x.1∧x.2.length≤reachBytes):=
 (pK (total:=2) Tryz.underlying159 rfl qC (cM (n:=1) qC qE (nV Tryz.underlying3) (cM (n:=1) qC qE wI pJ))).map
   (fun x=>((x.1,x.2.1):Rul)) (fun _ _=>rfl) (fun _ h=>⟨h.1,h.2.1⟩)
end Go.Proofs.YtdjfgcjlnfnfhaaGreatDoor
