/- MESSAGES, by what is asked of them only: the medium of an answer. -/
import Derived.Test.YtdjfgcjlnfnfhaaGreatDoorAdA
import Derived.Test.YtdjfgcjlnfnfhaaGreatDoorLwSeal
import Derived.Test.YtdjfgcjlnfnfhaaGreatDoorKeyP
import Derived.Test.YtdjfgcjlnfnfhaaGreatDoorLwTail
import Derived.Test.YtdjfgcjlnfnfhaaGreatDoorLkA
import Derived.Test.YtdjfgcjlnfnfhaaGreatDoorMsB
set_option linter.unusedSimpArgs false
set_option linter.unusedVariables false
namespace Go.Proofs.YtdjfgcjlnfnfhaaGreatDoor
open Go.Lw Go.RowKit
set_option maxRecDepth 100000
set_option maxHeartbeats 1000000
abbrev pP (id:Nat) (L:List Bs):List (Nat×O):=[(id,.own 9 1 (true,[str []]) (L.map fun x=>[str x]))]
theorem uG (id:Nat) (L:List Bs):Lw.look id (pP id L)=some (.own 9 1 (true,[str []]) (L.map fun x=>[str x])):=by simp[pP,Lw.look]
theorem Si (id0:Nat) {f:FuncId} (zs zs':List Bs) (hne:zs≠[]) (hl:zs'.length=zs.length) (hf:iJ Tryz.prog f=true)
 (hc: ∀(blk cap:Nat) (w:World),Sort.Holds encStr w blk 0 zs.toArray→blk<w.heap.size→Calls Tryz.prog f #[.slice (some ⟨blk,0,none⟩) zs.length cap] w fun e w'=>e= .returned (.tuple #[])∧ ∃n os,w'=Sort.grow (Sort.putRow encStr (Sort.ahead w n) blk 0 zs'.toArray) os):
 bJ Tryz.prog f [.os id0 zs.length] (pP id0 zs) (.d (.tup [])) (pP id0 zs'):=by
 refine⟨hf,fun ok h w vs hok hstd _ hlie ha=>?_⟩
 obtain⟨hn,hr⟩:=ha
 obtain⟨v0,e0,r0⟩:=hr 0 _ rfl
 have hob:=hlie.obj id0 _ (uG id0 _)
 obtain⟨hsz,hcap,hx⟩:=hob
 rcases hx with⟨_,he,_⟩|⟨b,cur,fz,hb,hheap,hth,hfz,hlen,hcs,hcells⟩
 ·exact absurd (List.map_eq_nil_iff.1 he) hne
 obtain rfl:=hfz rfl
 obtain⟨hblt,hnok⟩:=hlie.blk id0 _ b (uG id0 _) hb
 have hvs:vs= #[.slice (some ⟨b,0,none⟩) zs.length (h id0).cap]:=by
  have hv0:v0= .slice (some ⟨b,0,none⟩) zs.length (h id0).cap:=by
   cases r0
   simp[Hd.addr,hb]
  subst hv0
  apply Array.ext'
  apply List.ext_getElem?
  intro k
  match k with
  |0=>simpa using e0
  |k+1=>
   rw[Array.getElem?_toList,Array.getElem?_eq_none (by rw[hn];simp)]
   simp
 subst hvs
 simp only[List.length_map]at hlen
 have hat: ∀j,j<zs.length→cur[j]?=some (encStr (zs[j]?.getD [])):=by
  intro j hj
  obtain⟨_,h2⟩:=hcells j [str (zs[j]?.getD [])] (by simp[hj])
  obtain⟨v,h3,h4⟩:=h2 0 _ rfl
  cases h4
  have h3':cur[j*1+0]?=some (encStr (zs[j]?.getD [])):=h3
  simpa only[Nat.mul_one,Nat.add_zero]using h3'
 have hH:Sort.Holds encStr w b 0 zs.toArray:=by
  intro j hj
  have hj':j<zs.length:=by simpa using hj
  refine⟨?_,?_⟩
  ·have:=hat j hj'
   simp[World.cell?,hheap,this,hj']
  ·simp[World.frozen?,hheap]
 refine(hc b _ w hH hblt).mono fun e w' ⟨he,n,os,hw⟩=>⟨_,ok,h,he,?_⟩
 have hget: ∀k,k<w.heap.size→w'.heap[k]?=(w.heap[k]?).map (if b=k then Sort.onCells (Sort.putCells encStr 0 zs'.toArray)else id):=by
  intro k hk
  rw[hw]
  simp only[Sort.grow,Sort.putRow,Sort.mapBlock,Sort.ahead]
  rw[Array.getElem?_append_left qaZ,Array.getElem?_modify]
  by_cases e:b=k
  ·simp[e]
  ·simp[e]
 have hsize:w.heap.size≤w'.heap.size:=by
  rw[hw];simp[Sort.grow,Sort.putRow,Sort.mapBlock,Sort.ahead]
 refine⟨by rw[hw];rfl,by rw[hw];rfl,by rw[hw];rfl,hsize,fun k hk hnl=>?_,fun _ h=>h,fun k hk=>⟨Nat.lt_of_lt_of_le (hok k hk) hsize,.inl hk⟩,?_,fun id o b' hid hb'=>?_,fun _ _=>rfl,?_⟩
 ·rw[hget k hk,if_neg (fun e=>hnl ⟨id0,_,(uG id0 _),by rw[←e];exact hb⟩)]
  simp
 ·have hcur:w'.heap[b]?=some (.cells (Sort.putCells encStr 0 zs'.toArray cur) 9 (0,0)):=by
   rw[hget b hblt,if_pos rfl,hheap]
   rfl
  refine⟨fun id o hid=>?_,fun id o b' hid hb'=>?_,fun id id' o o' b' hid hid' hne'=>?_⟩
  ·simp only[pP,Lw.look]at hid
   split at hid
   ·rename_i e
    subst e;cases hid
    refine⟨hsz,hcap,.inr ⟨b,_,(0,0),hb,hcur,by simp[Mk],fun _=>rfl,qH,by simp[Sort.putCells,hcs],fun i l hi=>?_⟩⟩
    rw[List.getElem?_map]at hi
    obtain⟨x,hx,rfl⟩:=Option.map_eq_some_iff.1 hi
    refine⟨rfl,fun k d hd=>?_⟩
    have hk:k=0:=by
     cases k with
     |zero=>rfl
     |succ k=>simp at hd
    subst hk
    cases hd
    have hil:i<zs'.length:=(List.getElem?_eq_some_iff.1 hx).1
    have hic:i<cur.size:=by
     have:=hat i qD
     exact(Array.getElem?_eq_some_iff.1 this).1
    refine⟨.string (bs x),?_,.lit _⟩
    simp only[Nat.mul_one,Nat.add_zero,Sort.putCells]
    rw[Array.getElem?_mapIdx,Array.getElem?_eq_getElem hic]
    simp only[Option.map_some,Nat.zero_le,true_and,Nat.zero_add,Nat.sub_zero]
    rw[if_pos (by simpa using hil)]
    have hxi:zs'.toArray[i]! =x:=by
     rw[getElem!_pos _ i (by simpa using hil)]
     have:=(List.getElem?_eq_some_iff.1 hx).2
     simpa using this
    rw[hxi]
    rfl
   ·cases hid
  ·simp only[pP,Lw.look]at hid
   split at hid
   ·rename_i e
    subst e
    rw[hb]at hb'
    cases hb'
    exact⟨Nat.lt_of_lt_of_le hblt hsize,hnok⟩
   ·cases hid
  ·simp only[pP,Lw.look]at hid hid'
   split at hid
   ·split at hid'
    ·rename_i e1 e2;exact absurd (e1.symm.trans e2) hne'
    ·cases hid'
   ·cases hid
 ·simp only[pP,Lw.look]at hid
  split at hid
  ·rename_i e
   subst e
   exact .inr ⟨_,(uG id0 _),hb'⟩
  ·cases hid
 ·exact .d _ _ (.tup [] _ (fun _=>undef) rfl (fun i hi=>by simp at hi) (fun i d hi=>by simp at hi))
theorem Lv (s:Bs) (c:UInt8) (hs:s.length<4294967281):bJ Tryz.prog 118 [.d (str s),.d (str [c])] [] (.os 50001 (Lib.split s [c]).length) (pP 50001 (Lib.split s [c])):=by
 refine⟨qC,fun ok h0 w vs hk hstd _ _ ha=>?_⟩
 obtain⟨hn,hr⟩:=ha
 obtain⟨v0,e0,r0⟩:=hr 0 _ rfl
 obtain⟨v1,e1,r1⟩:=hr 1 _ rfl
 have hvs:vs= #[.string (bs s),.string (bs [c])]:=by
  obtain rfl:v0= .string (bs s):=by cases r0 with|d x v hx=>cases hx;rfl
  obtain rfl:v1= .string (bs [c]):=by cases r1 with|d x v hx=>cases hx;rfl
  apply Array.ext'
  apply List.ext_getElem?
  intro k
  match k with
  |0=>simpa using e0
  |1=>simpa using e1
  |k+2=>
   rw[Array.getElem?_toList,Array.getElem?_eq_none (by rw[hn];simp)]
   simp
 subst hvs
 obtain⟨m,hm⟩:=hstd.2.1 0 3 .i64 qC qC
 have h:=Tryz.strings_Split (bs s) (bs [c]) m w Qx hm qE
 have hcnt:Lib.countB (bs s) (bs [c])+1=(Lib.split s [c]).length:=(mL c s).symm
 have hB:Lib.splitB (bs [c]) 0 (Lib.countB (bs s) (bs [c])) (bs s)=(Lib.split s [c]).map bs:=by
  have e:=Lib.splitB_data (bs [c]) 0 (Lib.countB (bs s) (bs [c])) (bs s)
  have e2:(Lib.split s [c]).map bs=((Lib.splitB (bs [c]) 0 (Lib.countB (bs s) (bs [c])) (bs s)).map (·.data.toList)).map bs:=congrArg (List.map bs) e.symm
  rw[e2,List.map_map]
  exact(List.map_id'' (fun _=>rfl) _).symm
 rw[hcnt,hB]at h
 have hlen:=fG s c
 generalize Lib.split s [c]=L at h hlen⊢
 have hsz: ∀o:Obj,(w.alloc o).heap.size=w.heap.size+1:=fun o=>by unfold World.alloc;simp
 refine h.mono fun e w' ⟨he,hw⟩=>⟨_,ok,upd h0 50001 ⟨some w.heap.size,L.length,1⟩,he,?_⟩
 subst hw
 have hal:=(Below.refl w.heap.size w).alloc (Nat.le_refl _) (.cells ((L.map bs).map Value.string).toArray 9)
 refine⟨hal.os,hal.tape,hal.output,hal.size,fun k hk' _=>hal.block k hk',fun _ h=>h,fun k hk'=>⟨Nat.lt_of_lt_of_le (hk k hk') hal.size,.inl hk'⟩,⟨fun id o hid=>?_,fun id o b hid hb=>?_,fun id id' o o' b hid hid' hne'=>?_⟩,fun id o b hid hb=>?_,fun id hid=>bS h0 50001 _ _ qD,?_⟩
 ·simp only[pP,Lw.look]at hid
  split at hid
  ·rename_i e
   subst e;cases hid
   refine⟨Qz,by rw[aM];simp only[maxLen];omega,.inr ⟨w.heap.size,_,(0,0),Qz,heap_alloc_new w _,by simp[Mk],fun _=>rfl,by rw[aM];simp,by rw[aM];simp,fun i l hi=>?_⟩⟩
   rw[List.getElem?_map]at hi
   obtain⟨x,hx,rfl⟩:=Option.map_eq_some_iff.1 hi
   refine⟨rfl,fun k d hd=>?_⟩
   have hk:k=0:=by
    cases k with
    |zero=>rfl
    |succ k=>simp at hd
   subst hk
   cases hd
   refine⟨.string (bs x),by simp[hx],.lit _⟩
  ·cases hid
 ·simp only[pP,Lw.look]at hid
  split at hid
  ·rename_i e
   subst e
   rw[aM]at hb
   cases hb
   exact⟨by rw[hsz];omega,fun hx=>by have:=hk _ hx;omega⟩
  ·cases hid
 ·simp only[pP,Lw.look]at hid hid'
  split at hid
  ·split at hid'
   ·rename_i e1 e2;exact absurd (e1.symm.trans e2) hne'
   ·cases hid'
  ·cases hid
 ·simp only[pP,Lw.look]at hid
  split at hid
  ·rename_i e
   subst e
   rw[aM]at hb
   cases hb
   exact .inl (Nat.le_refl _)
  ·cases hid
 ·have hr:=RdV.os (w:=w.alloc (.cells ((L.map bs).map Value.string).toArray 9)) (ok:=ok) (h:=upd h0 50001 ⟨some w.heap.size,L.length,1⟩) 50001 L.length qaW
  rw[aM]at hr
  exact hr
theorem IR (L:List Bs) (hne:L≠[]) (hl:L.length≤1000000):bJ Tryz.prog 141 [.os 100001 L.length] (pP 100001 L) (.d (.tup [])) (pP 100001 L.reverse):=
 Si 100001 L L.reverse hne qE qC fun blk cap w hH hb=>(Tryz.slices_Reverse_string blk 0 cap L w hH qD).mono fun e w' ⟨he,n,hw⟩=>⟨he,n,#[],by rw[hw,Sort.grow_empty]⟩
theorem uH (c:UInt8): ∀l:Bs,Lib.trimLeftB l c=l.dropWhile fun x=>decide (x=c)
 |[]=>by simp[Lib.trimLeftB]
 |b::l=>by
  have ih:=uH c l
  unfold Lib.trimLeftB at ih⊢
  by_cases h:b=c
  ·simp[h]at ih⊢;exact ih
  ·simp[h]
theorem G1 (s:Bs):aJ Tryz.prog 121 [str s,str [48]] (str (s.dropWhile fun c=>decide (c=48))):=
 dL [.string (bs s),.string (bs [48])] qC fun w _=>by
  have h:=Tryz.strings_TrimLeft_one (bs s) 48 qK w
  rw[←uH]
  exact h
end Go.Proofs.YtdjfgcjlnfnfhaaGreatDoor
namespace Go.Lw
open Go Go.RowKit
section
variable {P:Program} {ops:Array Oper} {F:(World→Prop)→Prop} {Q':Exit→Act→World→Prop}
def AN (P:Program) (ops:Array Oper) (F:(World→Prop)→Prop) (n:Nat) (L:Array Bool→Act→Prop):Nat→Array Bool→Act→Prop
 |0,listed,a=>L listed a
 |f+1,listed,a=>(∃i∈Region.ready .any ops listed,i<n)∧ ∀i∈Region.ready .any ops listed,i=n∨(i<n∧ ∃o v,ops[i]?=some o∧(∀D,F D→YieldsIn P ops D o v a)∧AN P ops F n L f (listed.setIfInBounds i true) (a.put o.dst v))
theorem uI {n:Nat} {listed:Array Bool} (inv:HeadInv .any ops n listed):HeadInv .any ops (n+1) listed:=⟨inv.size,inv.closed,fun t h1 h2=>inv.tail t qD h2⟩
theorem G2 {n i:Nat} {oi:Oper} {v:Value} {L:Array Bool→Act→Prop} (hi:ops[i]?=some oi) (hsel: ∀(j:Nat) (o:Oper) cs b,ops[j]?=some o→o.op≠ .select cs b)
 (hs:Region.sinkB .any ops (n+1)=true) (hc:Region.chainB .any ops (n+1)=true) (hn:n+1<ops.size) (hin:i<n)
 (hdone: ∀listed a,L listed a→ ∀j∈Region.ready .any ops listed,n≤j):
 ∀(f:Nat) (listed:Array Bool) (a:Act),HeadInv .any ops n listed→
  (∀j oj,ops[j]?=some oj→j≠i→listed.getD j true=false→(∀e∈oj.after,Region.binds .any e=true→e.on≠i)→oi.apart ops oj=true)→
  i∈Region.ready .any ops listed→(∀D,F D→YieldsIn P ops D oi v a)→
  AN P ops F n L f (listed.setIfInBounds i true) (a.put oi.dst v)→AN P ops F n L (f+1) listed a:=by
 intro f
 induction f with
 |zero=>
  intro listed a inv _ hr hy H
  have hun:=(mem_ready.1 hr).1
  refine⟨⟨i,hr,hin⟩,fun j hj=>?_⟩
  have hjn:j<n+1:=by
   rcases Nat.lt_or_ge j (n+1)with h|h
   ·exact h
   ·exact absurd hj (tail_waits hs hc hn (uI inv) _ i rfl qD hun j h)
  by_cases hj':j=n
  ·exact .inl hj'
  refine .inr ⟨qD,?_⟩
  by_cases hji:j=i
  ·subst hji;exact⟨oi,v,hi,hy,H⟩
  ·have:=hdone _ _ H j (ready_mono hj hji)
   omega
 |succ f ih=>
  intro listed a inv hfree hr hy H
  have hun:=(mem_ready.1 hr).1
  refine⟨⟨i,hr,hin⟩,fun j hj=>?_⟩
  have hjn:j<n+1:=by
   rcases Nat.lt_or_ge j (n+1)with h|h
   ·exact h
   ·exact absurd hj (tail_waits hs hc hn (uI inv) _ i rfl qD hun j h)
  by_cases hj':j=n
  ·exact .inl hj'
  refine .inr ⟨qD,?_⟩
  by_cases hji:j=i
  ·subst hji;exact⟨oi,v,hi,hy,H⟩
  ·rcases H.2 j (ready_mono hj hji)with h|⟨_,oj',u,hoj',hyj,hF⟩
   ·exact absurd h hj'
   obtain⟨hjun,oj,hoj,hall⟩:=mem_ready.1 hj
   obtain rfl:oj'=oj:=Option.some.inj (hoj'.symm.trans hoj)
   have hnot: ∀e∈oj'.after,Region.binds .any e=true→e.on≠i:=fun e he hb heq=>by
    have h1:=hall e he hb
    rw[heq,getD_both hun]at h1
    cases h1
   obtain⟨h1,h2,h3⟩:=Oper.apart_spec (hfree j oj' hoj hji hjun hnot)
   have hfree': ∀k ok,ops[k]?=some ok→k≠i→(listed.setIfInBounds j true).getD k true=false→
    (∀e∈ok.after,Region.binds .any e=true→e.on≠i)→oi.apart ops ok=true:=fun k ok hk hki hun hno=>by
    refine hfree k ok hk hki ?_ hno
    by_cases hjk:j=k
    ·subst hjk;exact hjun
    ·rw[getD_set_ne true hjk]at hun;exact hun
   refine⟨oj',u,hoj,fun D hD=>(hyj D hD).of_same (execOp_put oj' (fun cs b=>hsel j oj' cs b hoj) a oi.dst v h1).symm (wanted_put oj' a oi.dst v h1).symm,?_⟩
   refine ih (listed.setIfInBounds j true) (a.put oj'.dst u) (inv.set hj qD) hfree' (ready_mono hr (Ne.symm hji)) (fun D hD=>(hy D hD).of_same (execOp_put oi (fun cs b=>hsel i oi cs b hi) a oj'.dst u h3) (wanted_put oi a oj'.dst u h3)) ?_
   rw[Array.setIfInBounds_comm _ _ hji,←Act.put_comm a v u h2]
   exact hF
theorem CA {n g:Nat} {Lq:Act→Prop} (hsel:Region.noSelect ops=true) (hs:Region.sinkB .any ops (n+1)=true) (hc:Region.chainB .any ops (n+1)=true) (hn:n+1<ops.size):
 ∀(l:List Oper) (k:Nat) (listed:Array Bool) (a:Act),(∀j,j<l.length→l[j]?=ops[k+j]?)→k+l.length=n→HeadInv .any ops n listed→
 Region.lexHead .any ops g l.length k listed=true→jQ P ops F Lq l a→
 AN P ops F n (fun listed' a'=>Region.seqB .any ops g n listed'=true∧HeadInv .any ops n listed'∧Lq a') l.length listed a
 |[],k,listed,a,_,hk,inv,hB,h=>by
  have:k=n:=by simpa using hk
  subst this
  exact⟨by simpa[Region.lexHead]using hB,inv,h⟩
 |o::l,k,listed,a,hl,hk,inv,hB,⟨v,hy,hK⟩=>by
  have h0:ops[k]?=some o:=by simpa using(hl 0 qE).symm
  simp only[List.length_cons,Region.lexHead,Bool.and_eq_true]at hB
  obtain⟨⟨hr,hf⟩,hB'⟩:=hB
  have hkn:k<n:=by simp only[List.length_cons]at hk;omega
  have hr':k∈Region.ready .any ops listed:=by simpa using hr
  exact G2 h0 (Region.noSelect_spec hsel) hs hc hn hkn (fun listed' a' hL=>seqB_ready hL.1) l.length listed a inv (Region.free_spec h0 hf) hr' hy
   (CA hsel hs hc hn l (k+1) _ _ (fun j hj=>by have:=hl (j+1) qH;simpa[Nat.add_assoc,Nat.add_comm 1 j]using this) (by simp only[List.length_cons]at hk;omega) (inv.set hr' hkn) hB' hK)
def Rf (ops:Array Oper) (n:Nat) (on:Oper):Bool:=
 (List.range n).all fun i=>match ops[i]? with
   |some o=> !Region.waitsFor .any ops i n&&on.apart ops o
   |none=>false
theorem Lx {n:Nat} {on:Oper} (h:Rf ops n on=true) {i:Nat} {o:Oper} (hi:i<n) (ho:ops[i]?=some o):(∀e∈o.after,Region.binds .any e=true→e.on≠n)∧on.apart ops o=true:=by
 have:=List.all_eq_true.1 h i (List.mem_range.2 hi)
 simp only[ho,Bool.and_eq_true,Bool.not_eq_true']at this
 refine⟨fun e he hb heq=>?_,this.2⟩
 have h1:=this.1
 unfold Region.waitsFor at h1
 simp only[ho]at h1
 have h2:(o.after.any fun e=>Region.binds .any e&&e.on==n)=true:=Array.any_eq_true'.2 ⟨e,he,by simp[hb,heq]⟩
 rw[h2]at h1
 cases h1
theorem xZ {D:World→Prop} {i:Nat} {o:Oper} {v:Value} {a:Act} {w:World} {K':Act→World→Prop} (hi:ops[i]?=some o) (hy:YieldsIn P ops D o v a) (hw:D w) (h: ∀w',D w'→K' (a.put o.dst v) w'):wpOp P ops Q' i K' a w:=
 wpOp_of_qOp (C:=D) (K:=fun a'=>a'=a.put o.dst v) hw (fun a' w' hw' e=>by subst e;exact h w' hw') (hy.qOp hi rfl)
theorem G3 {n g:Nat} {on:Oper} {vn:Value} {D:World→Prop} {Lq:Act→Prop} (hD:F D) (hon:ops[n]?=some on) (hsel: ∀(j:Nat) (o:Oper) cs b,ops[j]?=some o→o.op≠ .select cs b)
 (hs:Region.sinkB .any ops (n+1)=true) (hc:Region.chainB .any ops (n+1)=true) (hn:n+1<ops.size) (hfar:Rf ops n on=true) (hg:g=(ops.toList.drop (n+1)).length)
 (hL: ∀a w',Lq a→D w'→wpList P ops Q' (ops.toList.drop (n+1)) (a.put on.dst vn) w'):
 ∀(f:Nat) (listed:Array Bool) (a:Act) (w:World),HeadInv .any ops n listed→(∀e∈on.after,Region.binds .any e=true→listed.getD e.on false=true)→D w→
  AN P ops F n (fun listed' a'=>Region.seqB .any ops (g+1) n listed'=true∧HeadInv .any ops n listed'∧Lq a') f listed a→wpAny P .any ops Q' (f+g) (listed.setIfInBounds n true) (a.put on.dst vn) w
 |0,listed,a,w,inv,hon',hw,h=>by
  obtain⟨h1,h2,h3⟩:=h
  simp only[Region.seqB,Bool.and_eq_true,decide_eq_true_eq]at h1
  rw[Nat.zero_add,hg]
  exact wpAny_of_seq _ (n+1) _ _ _ (fun j=>by simp[List.getElem?_drop]) (hg▸h1.2) (hL _ _ h3 hw)
 |f+1,listed,a,w,inv,hon',hw,h=>by
  obtain⟨⟨i0,hi0,hi0n⟩,hall⟩:=h
  rw[show f+1+g=(f+g)+1 by omega]
  have hr0:=ready_mono (i:=n) hi0 qD
  have hun0:=(mem_ready.1 hi0).1
  have hinv':HeadInv .any ops (n+1) (listed.setIfInBounds n true):=by
   refine⟨by simp[inv.size],fun j oj hj hl e he hb=>?_,fun t h1 h2=>by rw[getD_set_ne true qD];exact inv.tail t qD h2⟩
   by_cases hij:n=j
   ·subst hij
    obtain rfl:oj=on:=Option.some.inj (hj.symm.trans hon)
    exact getD_set_true (hon' e he hb)
   ·rw[getD_set_ne false hij]at hl
    exact getD_set_true (inv.closed j oj hj hl e he hb)
  refine⟨fun e=>(by rw[e]at hr0;cases hr0),fun i hi=>?_⟩
  obtain⟨hiun,oi,hoi,hdeps⟩:=mem_ready.1 hi
  have hin1:i<n+1:=by
   rcases Nat.lt_or_ge i (n+1)with h|h
   ·exact h
   ·exact absurd hi (tail_waits hs hc hn hinv' _ i0 rfl qD (by rw[getD_set_ne true qD];exact hun0) i h)
  have hne:i≠n:=by
   rintro rfl
   have:i<listed.size:=by rw[inv.size];omega
   simp[this]at hiun
  have hin:i<n:=by omega
  obtain⟨hnw,hap⟩:=Lx hfar hin hoi
  have hir:i∈Region.ready .any ops listed:=mem_ready.2 ⟨by rw[getD_set_ne true (Ne.symm hne)]at hiun;exact hiun,oi,hoi,fun e he hb=>by
   have:=hdeps e he hb
   rwa [getD_set_ne false (Ne.symm (hnw e he hb))]at this⟩
  rcases hall i hir with e|⟨_,o,v,ho,hy,hF⟩
  ·exact absurd e hne
  obtain rfl:o=oi:=Option.some.inj (ho.symm.trans hoi)
  obtain⟨h1,h2,h3⟩:=Oper.apart_spec hap
  refine xZ (D:=D) (v:=v) hoi ((hy D hD).of_same (execOp_put o (fun cs b=>hsel i o cs b hoi) a on.dst vn h1) (wanted_put o a on.dst vn h1)) hw fun w' hw'=>?_
  rw[Array.setIfInBounds_comm _ _ (Ne.symm hne),Act.put_comm a vn v h2]
  exact G3 hD hon hsel hs hc hn hfar hg hL f _ _ w' (inv.set hir hin) (fun e he hb=>getD_set_true (hon' e he hb)) hw' hF
theorem Rg {n g:Nat} {on:Oper} {w0:World} {Lq:Act→Prop} (hon:ops[n]?=some on) (hgd:on.guard=none) (hsel: ∀(j:Nat) (o:Oper) cs b,ops[j]?=some o→o.op≠ .select cs b)
 (hs:Region.sinkB .any ops (n+1)=true) (hc:Region.chainB .any ops (n+1)=true) (hn:n+1<ops.size) (hfar:Rf ops n on=true) (hg:g=(ops.toList.drop (n+1)).length)
 (hrun: ∀w,∃v w1,(∀ev,(execOp ev on).run P w= .ok (.value v) w1)∧Below w.heap.size w w1)
 (hL: ∀a w v w1 w',Lq a→Below w0.heap.size w0 w→(∀ev,(execOp ev on).run P w= .ok (.value v) w1)→Below w1.heap.size w1 w'→wpList P ops Q' (ops.toList.drop (n+1)) (a.put on.dst v) w'):
 ∀(f:Nat) (listed:Array Bool) (a:Act) (w:World),HeadInv .any ops n listed→Below w0.heap.size w0 w→
  AN P ops (Fam w0) n (fun listed' a'=>Region.seqB .any ops (g+1) n listed'=true∧HeadInv .any ops n listed'∧Lq a') f listed a→wpAny P .any ops Q' (f+g+1) listed a w:=by
 have take: ∀(f:Nat) (listed:Array Bool) (a:Act) (w:World),HeadInv .any ops n listed→(∀e∈on.after,Region.binds .any e=true→listed.getD e.on false=true)→Below w0.heap.size w0 w→
  AN P ops (Fam w0) n (fun listed' a'=>Region.seqB .any ops (g+1) n listed'=true∧HeadInv .any ops n listed'∧Lq a') f listed a→
  wpOp P ops Q' n (wpAny P .any ops Q' (f+g) (listed.setIfInBounds n true)) a w:=by
  intro f listed a w inv hdeps hw h
  obtain⟨v,w1,hv,hb⟩:=hrun w
  unfold wpOp
  simp only[hon]
  rw[if_pos (by simp[Region.wanted,hgd])]
  left
  unfold Oper.wp
  rw[hv]
  have h01:Below w0.heap.size w0 w1:=hw.trans (hb.mono hw.size)
  exact G3 (F:=Fam w0) (D:=fun w'=>Below w1.heap.size w1 w') ⟨fun w' h'=>h01.trans (h'.mono h01.size),fun _ _ h k=>h.trans (k.mono h.size)⟩ hon hsel hs hc hn hfar hg
   (fun a' w' ha' hw'=>hL a' w v w1 w' ha' hw hv hw') f listed a w1 inv hdeps (Below.refl _ _) h
 intro f
 induction f with
 |zero=>
  intro listed a w inv hw h
  have h1:=h.1
  simp only[Region.seqB,Bool.and_eq_true,decide_eq_true_eq]at h1
  refine⟨fun e=>(by rw[e]at h1;cases h1.1),fun i hi=>?_⟩
  rw[h1.1]at hi
  obtain rfl:i=n:=by simpa using hi
  obtain⟨_,o,ho,hdeps⟩:=mem_ready.1 (show i∈Region.ready .any ops listed by rw[h1.1];simp)
  obtain rfl:o=on:=Option.some.inj (ho.symm.trans hon)
  exact take 0 listed a w inv hdeps hw h
 |succ f ih=>
  intro listed a w inv hw h
  obtain⟨⟨i0,hi0,hi0n⟩,hall⟩:=h
  rw[show f+1+g+1=(f+1+g)+1 by omega]
  refine⟨fun e=>(by rw[e]at hi0;cases hi0),fun i hi=>?_⟩
  rcases hall i hi with e|⟨hin,o,v,ho,hy,hF⟩
  ·subst e
   obtain⟨_,o,ho,hdeps⟩:=mem_ready.1 hi
   obtain rfl:o=on:=Option.some.inj (ho.symm.trans hon)
   exact take (f+1) listed a w inv hdeps hw ⟨⟨i0,hi0,hi0n⟩,hall⟩
  ·refine xZ (D:=fun w'=>Below w0.heap.size w0 w') ho (hy _ (vN w0)) hw fun w' hw'=>?_
   rw[show f+1+g=f+g+1 by omega]
   exact ih _ _ w' (inv.set hi hin) hw' hF
def DV (ops:Array Oper) (n:Nat) (on:Oper):Bool:=
 Region.noSelect ops&&decide (n+1<ops.size)&&Region.sinkB .any ops (n+1)&&Region.chainB .any ops (n+1)&&Rf ops n on&&on.guard.isNone&&Region.lexHead .any ops (ops.size-n) n 0 (Array.replicate ops.size false)
theorem yM {id:Nat} {Q:Exit→Act→World→Prop} {a:Act} {w:World} {l:List Oper} (n:Nat) {on:Oper} (hm:P.follows .mixedOrders=true) (hon:l.toArray[n]?=some on) (hB:DV l.toArray n on=true)
 (hrun: ∀w,∃v w1,(∀ev,(execOp ev on).run P w= .ok (.value v) w1)∧Below w.heap.size w w1) {Lq:Act→Prop}
 (h:jQ P l.toArray (Fam {w with drawn:=w.drawn+1}) Lq (l.take n) a)
 (hL: ∀a w' v w1 w2,Lq a→Below w.heap.size {w with drawn:=w.drawn+1} w'→(∀ev,(execOp ev on).run P w'= .ok (.value v) w1)→Below w1.heap.size w1 w2→wpList P l.toArray Q (l.drop (n+1)) (a.put on.dst v) w2):(Code.region id l.toArray true).wp P Q a w:=by
 simp only[DV,Bool.and_eq_true,decide_eq_true_eq,Option.isNone_iff_eq_none]at hB
 obtain⟨⟨⟨⟨⟨⟨hsel,hn⟩,hs⟩,hc⟩,hfar⟩,hgd⟩,hlex⟩:=hB
 have hn':n+1<l.length:=by simpa using hn
 have htl:(l.take n).length=n:=by simp;omega
 have inv0:HeadInv .any l.toArray n (Array.replicate l.toArray.size false):=
  ⟨qE,fun j oj _ hl=>(by rw[getD_replicate_false]at hl;cases hl),fun t _ ht=>getD_in (by simpa using ht) (getD_replicate_false _ _)⟩
 have hg1:l.toArray.size-n=(l.length-(n+1))+1:=by simp;omega
 rw[hg1]at hlex
 have H:=CA (g:=(l.length-(n+1))+1) hsel hs hc hn (l.take n) 0 _ a (fun j hj=>by
  have hj':j<n:=by rw[htl]at hj;exact hj
  simp[hj']) (by simpa using htl) inv0 (by rw[htl];exact hlex) h
 refine wp_region_any hm ?_
 have:=Rg (Q':=Q) (g:=l.length-(n+1)) (w0:={w with drawn:=w.drawn+1}) (Lq:=Lq) hon hgd (Region.noSelect_spec hsel) hs hc hn hfar qE hrun (by simpa using hL) _ _ _ _ inv0 (Below.refl _ _) H
 rw[htl,show n+(l.length-(n+1))+1=l.toArray.size by simp;omega]at this
 exact this
theorem IU {on:Oper} {t:TypeId} {zs:List Value} (ho:on.op= .alloc t) (hz:aL P t=some zs) (w:World): ∃v w1,(∀ev,(execOp ev on).run P w= .ok (.value v) w1)∧Below w.heap.size w w1:=by
 obtain⟨z,h1,h2⟩:=dN hz w
 exact⟨.pointer (some ⟨w.heap.size,0,none⟩),w.alloc (.cells z.cells t),fun ev=>by simp[execOp,ho,Instr.alloc,h1,newVar,newRow],(Below.refl _ w).alloc (Nat.le_refl _) _⟩
end
section
variable {C:Ctx} {P:Program} {nt:Nat} {st:St} {Q:Exit→St→Prop}
theorem Ly (n:Nat) {id:Nat} {l:List Oper} {on:Oper} {t:TypeId} {zs:List Value} (hc:bB C P nt) (hm:P.follows .mixedOrders=true) (hon:l[n]?=some on) (hB:DV l.toArray n on=true) (hop:on.op= .alloc t) (hz:aA (aL P t) zs)
 (hl:cL C l.toArray (l.take n) st fun st'=>cC C l.toArray [on] st' fun st2=>cC C l.toArray (l.drop (n+1)) st2 fun st3=>Q .normal st3):ewp C (.region id l.toArray true) Q st:=by
 obtain⟨rfl,rfl,hok⟩:=hc
 rintro a w ⟨ok,h,r⟩
 have r0:=r.below hok ((Below.refl _ w).drew)
 refine yM n hm (by simpa using hon) hB (IU hop hz) (Lq:=fun a'=> ∃st',(cC C l.toArray [on] st' fun st2=>cC C l.toArray (l.drop (n+1)) st2 fun st3=>Q .normal st3)∧Rep C st' ok h a' {w with drawn:=w.drawn+1})
  (hl ok h a _ r0 _ fun a' st' hk r'=>⟨st',hk,r'⟩) ?_
 rintro a' w' v w1 w2 ⟨st',hk,r'⟩ hb hrun hb2
 have hgd:on.guard=none:=by
  simp only[DV,Bool.and_eq_true,Option.isNone_iff_eq_none]at hB
  exact hB.1.2
 have h1:=hk a' w' ⟨ok,h,r'.below hok hb⟩ (fun e a2 w2=>e= .normal∧ ∃st2,(cC C l.toArray (l.drop (n+1)) st2 fun st3=>Q .normal st3)∧kZ C st2 a2 w2) (fun a2 w2 st2 h2 r2=>⟨rfl,st2,h2,r2⟩)
 unfold wpList at h1
 rw[if_pos (by simp[Region.wanted,hgd])]at h1
 rcases h1 with h1|h1
 ·unfold Oper.wp at h1
  rw[hrun]at h1
  obtain⟨_,st2,h2,ok2,hh2,r2⟩:=h1
  exact h2 _ _ ⟨ok2,hh2,r2.below hok hb2⟩ _ fun a'' w'' st'' hk r''=>⟨st'',hk,r''⟩
 ·obtain⟨_,_,_,e,_⟩:=h1
  cases e
end
end Go.Lw
namespace Go.Proofs.YtdjfgcjlnfnfhaaGreatDoor
open Go.Lw Go.RowKit
set_option maxRecDepth 100000
set_option maxHeartbeats 1000000
theorem kL:GZ:=by
 intro a h
 refine aW Tryz.func74 rfl qC Tryz.ntmps74 _ rfl qE fun C hc=>?_
 obtain⟨hA,hl⟩:=(kC a).1 h
 have hf:=pM h
 have hpl:=G0 a
 have hql:a.query.length≤2000:=by
  by_cases e:a.query=[]
  ·simp[e]
  ·have hq:=hA.eI e
   have:(dF a).length=a.scheme.length+3+a.host.length+(eK a).length+(a.path.length+(eV a).length+(mP a).length):=by simp[dF,gU];omega
   have h2:(eV a).length=a.query.length+1:=by unfold eV;rw[if_pos hq];simp
   omega
 have hS1:=bP a.scheme qD
 have hS2:=bP a.host qD
 have hTL:=G1 a.port
 have hN1:=GW a.path qD (VM hA.path)
 have hN2:=GW a.query qD hA.query
 have hnl:=kK a.path
 have hUn:=GQ (fA a.path) qD
 have hsch:small a.scheme=[104,116,116,112]∨small a.scheme=[104,116,116,112,115]:=hA.sch
 unfold bQ AH AJ
 generalize small a.scheme=sc at hS1 hsch⊢
 generalize small a.host=ho at hS2⊢
 generalize (a.port.dropWhile fun c=>decide (c=48))=po at hTL⊢
 generalize fA a.path=pa at hN1 hUn⊢
 generalize fA a.query=qu at hN2⊢
 generalize gD pa=up at hUn⊢
 repeat' (first|refine Wd ?_|(refine Wc ?_ ?_<;>intro hb<;>try simp at hb)|(refine Ly 18 hc qC rfl qC rfl qA ?_;try simp only[List.take_succ_cons,List.take_zero,List.drop_succ_cons,List.drop_zero])|refine Zw hc (hf:=QT) (hk:=?_)|refine Zq hc (hf:=QT) (hk:=?_)|refine Wn ?_|fail)
 ·rename_i k
  rw[if_pos k,if_pos hb]
  (refine Zl hc (hr:=?_))
  simp
 ·rename_i k
  rw[if_pos k,if_neg hb]
  (refine Zl hc (hr:=?_))
  simp
 ·rename_i k
  rw[if_neg (fun e=>e.elim (fun e=>k.1 e.1 e.2) (fun e=>k.2 e.1 e.2)),if_pos hb]
  (refine Zl hc (hr:=?_))
  simp
 ·rename_i k
  rw[if_neg (fun e=>e.elim (fun e=>k.1 e.1 e.2) (fun e=>k.2 e.1 e.2)),if_neg hb]
  (refine Zl hc (hr:=?_))
  simp
abbrev noL:D:= .lit (.slice none 0 0)
theorem CB (k:Int) (n:Bs):aJ Tryz.prog 215 [noL,.agg [int k,str n]] (int (-1)):=by
 refine aW Tryz.func215 rfl qC Tryz.ntmps215 _ rfl qE fun C hc=>?_
 repeat' (first|refine Wd ?_|(refine Wc ?_ ?_<;>intro hb<;>try simp at hb)|refine Wn ?_|fail)
 refine aN (fun _:Unit=>⟨[(7,.d (int 0)),(8,.d (int 0))],[]⟩) (fun _=>True) (fun _=>0) () trivial (aG [7,8] [] qA qA) ?_
 rintro _ _
 repeat' (first|refine Wd ?_|(refine Wc ?_ ?_<;>intro hb<;>try simp at hb)|refine Wn ?_|fail)
 all_goals try contradiction
 (refine Zl hc (hr:=?_))
 simp
theorem uJ (k:Int) (n:Bs):aJ Tryz.prog 140 [noL,.agg [int k,str n]] (tru false):=by
 refine aW Tryz.func140 rfl qC Tryz.ntmps140 _ rfl qE fun C hc=>?_
 repeat' (first|refine Wd ?_|(refine Wc ?_ ?_<;>intro hb<;>try simp at hb)|refine Zw hc (hf:=by exact CB _ _) (hk:=?_)|refine Zq hc (hf:=by exact CB _ _) (hk:=?_)|refine Wn ?_|fail)
 (refine Zl hc (hr:=?_))
 simp
theorem lQ (k:Int) (n:Bs):aJ Tryz.prog 76 [noL,int k,str n] (tru false):=by
 refine aW Tryz.func76 rfl qC Tryz.ntmps76 _ rfl qE fun C hc=>?_
 repeat' (first|refine Wd ?_|(refine Wc ?_ ?_<;>intro hb<;>try simp at hb)|refine Zw hc (hf:=by exact uJ _ _) (hk:=?_)|refine Zq hc (hf:=by exact uJ _ _) (hk:=?_)|refine Wn ?_|fail)
 (refine Zl hc (hr:=?_))
 simp
theorem pQ (s:Bs) (c:UInt8) (hs:s.length<4611686018427387904):aJ Tryz.prog 144 [str s,u8 c] (int (Lib.lastIndexByte (bs s) c.toNat)):=
 dL [.string (bs s),.int .u8 c.toNat] qC fun w _=>Tryz.strings_LastIndexByte (bs s) c.toNat Qx w
theorem wN (s:Bs) (f t:UInt8) (hs:s.length≤100000):aJ Tryz.prog 77 [str s,str [f],str [t]] (str (gO s f t)):=by
 refine aW Tryz.func77 rfl qC Tryz.ntmps77 _ rfl qE fun C hc=>?_
 have hS:=Lv s f qD
 have hne:=gM f s
 have hlen:=fG s f
 have hR:=IR (Lib.split s [f]) hne qD
 have hJ:=tU (Lib.split s [f]).reverse [t] qH (by have:=pO s f t;unfold gO at this;omega)
 unfold gO
 have hM:(Lib.split s [f]).reverse.length=(Lib.split s [f]).length:=by simp
 generalize (Lib.split s [f]).reverse=M at hR hJ hM⊢
 generalize Lib.split s [f]=L at hS hR hne hlen hM
 have eJ:cE M=D.sl M.length fun i=>[str (M[i]?.getD [])]:=by simp[cE]
 rw[eJ]at hJ
 rw[←hM]at hS hR
 repeat' (first|refine Wd ?_|(refine Wc ?_ ?_<;>intro hb<;>try simp at hb)|refine aF ([(50001,40001)]) (hS) hc qA qA qA qA qA rfl qA qA rfl qE qE qA qA ?_|refine aF ([(100001,40001)]) (hR) hc qA qA qA qA qA rfl qA qA rfl qE qE qA qA ?_|refine Zw hc (hf:=by exact hJ) (hk:=?_)|refine Zq hc (hf:=by exact hJ) (hk:=?_)|refine Wn ?_|fail)
 (refine Zl hc (hr:=?_))
 rfl
theorem J2 (s:Bs) (c:UInt8): ∃k:Nat,Lib.lastIndexByte (bs s) c.toNat=(k:Int)-1∧k≤s.length:=by
 unfold Lib.lastIndexByte
 rcases Lib.lastIdx_spec (bs s) c.toNat (bs s).size with⟨h,_⟩|⟨i,h1,h2,_⟩
 ·exact⟨0,by rw[h];rfl,Nat.zero_le _⟩
 ·exact⟨i+1,by rw[h2];omega,by simp at h1;omega⟩
theorem IV (p:Bs) (hp:p.length≤100000):aJ Tryz.prog 78 [str p,noL] (str p):=by
 refine aW Tryz.func78 rfl qC Tryz.ntmps78 _ rfl qE fun C hc=>?_
 have hL:=pQ p 47 qD
 obtain⟨k,hk,hkl⟩:=J2 p 47
 rw[hk]at hL
 repeat' (first|refine Wd ?_|(refine Wc ?_ ?_<;>intro hb<;>try simp at hb)|refine Zw hc (hf:=by first|exact hL|exact lQ _ _) (hk:=?_)|refine Zq hc (hf:=by first|exact hL|exact lQ _ _) (hk:=?_)|refine Wn ?_|fail)
 all_goals try contradiction
 (refine Zl hc (hr:=?_))
 simp
theorem G4 (q:Bs) (hq:q.length≤100000):aJ Tryz.prog 79 [str q,noL] (str (63::q)):=by
 refine aW Tryz.func79 rfl qC Tryz.ntmps79 _ rfl qE fun C hc=>?_
 have hS:=mM q 38 qD
 have hne:=gM 38 q
 have hlen:=fG q 38
 have heach:=nR 38 q
 have hj:=nN 38 q
 have hJ:=tU (Lib.split q [38]) [38] qD (by rw[hj];omega)
 rw[hj]at hJ
 generalize Lib.split q [38]=L at hS hJ hne hlen heach
 have hL1:1≤L.length:=List.length_pos_iff.2 hne
 rw[show cE L=D.sl L.length fun i=>[str (L[i]?.getD [])]by simp[cE]]at hJ
 repeat' (first|refine Wd ?_|(refine Wc ?_ ?_<;>intro hb<;>try simp at hb)|refine Zw hc (hf:=Qf) (hk:=?_)|refine Zq hc (hf:=Qf) (hk:=?_)|refine Wn ?_|fail)
 refine aN (fun x:Nat×Nat=>⟨[(1,.d noL),(6,.os 40000 x.1),(14,.d (cE L)),(15,.d (int L.length)),(16,.d (int x.1))],[(40000,.own 9 1 (true,[str []]) ((L.take x.1).map fun y=>[str y]))]⟩) (fun x=>x.1≤L.length) (fun x=>L.length-x.1) (0,0) qE (cQ [(6,none,40000,9,[str []])] [1,6,14,15,16] [40000] qA qA qA) ?_
 rintro⟨j,u⟩ hj1
 simp only at hj1⊢
 by_cases hlt:j<L.length
 ·have hel:=heach _ (List.getElem_mem hlt)
  have hC:=sL (L[j]?.getD []) 61 QQ
  generalize Lib.cut (L[j]?.getD []) [61]=z at hC
  have e:(L.take (j+1)).map (fun y=>[str y])=List.take j (List.take j (L.map fun x=>[str x]))++[[str (L[j]?.getD [])]]:=by
   rw[List.take_take,Nat.min_self,←List.map_take,List.take_add_one,List.getElem?_eq_getElem hlt,List.map_append];rfl
  repeat' (first|refine Wd ?_|(refine Wc ?_ ?_<;>intro hb<;>try simp at hb)|refine Zw hc (hf:=by first|exact hC|exact lQ _ _) (hk:=?_)|refine Zq hc (hf:=by first|exact hC|exact lQ _ _) (hk:=?_)|refine Wn ?_|fail)
  all_goals try(exfalso;omega)
  exact⟨(j+1,0),qI,qI,aC [1,6,14,15,16] [40000] qA qA (by rw[e];simp)⟩
 ·obtain rfl:j=L.length:=by omega
  rw[List.take_length]
  repeat' (first|refine Wd ?_|(refine Wc ?_ ?_<;>intro hb<;>try simp at hb)|refine Zw hc (hf:=by first|exact lQ _ _|exact hJ) (hk:=?_)|refine Zq hc (hf:=by first|exact lQ _ _|exact hJ) (hk:=?_)|refine Wn ?_|fail)
  all_goals try(exfalso;omega)
  all_goals try contradiction
  (refine Zl hc (hr:=?_))
  simp
set_option maxHeartbeats 2000000
theorem G5 {a:Adr} (h:bX a=0):a.scheme.length≤2000∧a.host.length≤2000∧a.port.length≤2000∧a.path.length≤2000∧a.query.length≤2000:=by
 obtain⟨hA,hl⟩:=(kC a).1 h
 rw[DT]at hl
 have hp:a.port.length≤(eK a).length:=by unfold eK;split<;>simp_all
 have hq:a.query.length≤(eV a).length:=by
  unfold eV
  split
  ·simp
  ·rename_i e
   have:a.query=[]:=Classical.byContradiction fun x=>e (hA.eI x)
   simp[this]
 omega
theorem sT {a:Adr} (h:bX a=0):(bQ a).host.length≤2001∧(bQ a).port.length≤2001∧(bQ a).path.length≤2001∧(bQ a).query.length≤2001:=by
 obtain⟨h1,h2,h3,h4,h5⟩:=G5 h
 have k1:=GY a.path
 have k2:=kK a.query
 have k3:(AH (small a.scheme) (a.port.dropWhile fun c=>decide (c=48))).length≤a.port.length:=by
  have:=(List.dropWhile_suffix (l:=a.port) fun c=>decide (c=48)).length_le
  unfold AH
  split
  ·simp
  ·exact this
 exact⟨by simp[bQ,small];omega,QW,QW,QW⟩
theorem J3 (a:Adr) (h:bX a=0):aJ Tryz.prog 33 [dI a,noL] (str (IP a)):=by
 refine aW Tryz.func33 rfl qC Tryz.ntmps33 _ rfl qE fun C hc=>?_
 have hN:=kL a h
 obtain⟨k1,k2,k3,k4⟩:=sT h
 unfold IP
 generalize bQ a=n at hN k1 k2 k3 k4⊢
 have hCP:=fZ n.host [119,119,119,46]
 have hT:=wN n.host 46 44 qD
 have htl:=pO n.host 46 44
 have hP:=IV n.path qD
 have hQ:=G4 n.query qD
 unfold IM eK eV
 generalize gO n.host 46 44=tu at hT htl⊢
 repeat' (first|refine Wd ?_|(refine Wc ?_ ?_<;>intro hb<;>try simp at hb)|refine Zw hc (hf:=QU) (hk:=?_)|refine Zq hc (hf:=QU) (hk:=?_)|refine Wn ?_|fail)
 all_goals rename_i g0 g1 g2
 all_goals(refine Zl hc (hr:=?_))
 all_goals simp[g1,g2,hb]
theorem DW (c:UInt8) (s:Bs):(Lib.cut s [c]).1.length≤s.length∧(Lib.cut s [c]).2.1.length≤s.length:=by
 rcases vY c s with h|⟨x,y,rfl,h⟩
 ·rw[Dw c s h];simp
 ·rw[y7 c x y h];simp;omega
theorem G6 (s p:Bs):(kB s p).length≤s.length:=by unfold kB;split<;>simp
theorem NL (s:Bs) (hm:s.length≤9223372036854775807):aJ Tryz.prog 49 [str s] (.tup [dI (ofK s).1,int (ofK s).2]):=by
 refine aW Tryz.func49 rfl qC Tryz.ntmps49 _ rfl qE fun C hc=>?_
 unfold ofK
 by_cases hbig:2000<s.length
 ·rw[if_pos hbig]
  repeat' (first|refine Wd ?_|(refine Wc ?_ ?_<;>intro hb<;>try simp at hb)|refine Wn ?_|fail)
  all_goals try(exfalso;omega)
  (refine Zl hc (hr:=?_))
  simp
 rw[if_neg hbig]
 have h1:=sL s 41 qD
 have l1:=DW 41 s
 have h2:=sL (Lib.cut s [41]).1 58 qD
 have l2:=DW 58 (Lib.cut s [41]).1
 have h3:=wN (Lib.cut (Lib.cut s [41]).1 [58]).1 44 46 qD
 have l3:=pO (Lib.cut (Lib.cut s [41]).1 [58]).1 44 46
 have h4:=fZ (Lib.cut s [41]).2.1 [115]
 have l4:=G6 (Lib.cut s [41]).2.1 [115]
 have h5:=sL (kB (Lib.cut s [41]).2.1 [115]) 63 qD
 have l5:=DW 63 (kB (Lib.cut s [41]).2.1 [115])
 have hF:(kD s).1.Fits:=⟨by unfold kD;simp only;split<;>simp,Q6,Q6,Q6,Q6,by simp[kD]⟩
 have h6:=eL (kD s).1 hF
 have h7:=J3 (kD s).1
 unfold kD at h6 h7⊢
 by_cases hs:[115] <+: (Lib.cut s [41]).2.1
 ·clear l1 l2 l3 l4 l5 hF
  simp only at h6 h7⊢
  rw[if_pos hs]at h6 h7⊢
  generalize IP _=kk at h7⊢
  generalize bX _=cc at h6 h7⊢
  generalize Lib.cut (kB (Lib.cut s [41]).2.1 [115]) [63]=z3 at h5 h6 h7⊢
  generalize kB (Lib.cut s [41]).2.1 [115]=rest at h4 h5
  generalize gO (Lib.cut (Lib.cut s [41]).1 [58]).1 44 46=ho at h3 h6 h7⊢
  generalize Lib.cut (Lib.cut s [41]).1 [58]=z2 at h2 h3 h6 h7⊢
  generalize Lib.cut s [41]=z1 at h1 h2 h4 h5 h6 h7 hs⊢
  by_cases hcc:cc=0
  ·have h8:=h7 hcc
   clear h7
   subst hcc
   repeat' (first|refine Wd ?_|(refine Wc ?_ ?_<;>intro hb<;>try simp at hb)|refine Zw hc (hf:=qY) (hk:=?_)|refine Zq hc (hf:=qY) (hk:=?_)|refine Wn ?_|fail)
   all_goals try(exfalso;omega)
   all_goals try contradiction
   ·rw[if_pos (by
     rcases hb with h|h
     ·exact .inl h
     ·exact .inr (.inr h))]
    (refine Zl hc (hr:=?_))
    simp
   ·rw[if_neg (fun e=>by
     rcases e with h|h|h
     ·exact hb.1 h.1 h.2
     ·exact h rfl
     ·exact h hb.2)]
    (refine Zl hc (hr:=?_))
    simp
  ·clear h7
   rw[if_pos (.inr (.inl hcc))]
   repeat' (first|refine Wd ?_|(refine Wc ?_ ?_<;>intro hb<;>try simp at hb)|refine cP hc qA qA qA qA qA (fun _=>by first|exact h1|exact h2|exact h3|exact h4|exact h5|exact h6|exact(show aJ _ _ _ (str [])from by exfalso;simp_all;done)) qE qE ?_|refine cW hc qA qA qA qA qA (fun _=>by first|exact h1|exact h2|exact h3|exact h4|exact h5|exact h6|exact(show aJ _ _ _ (str [])from by exfalso;simp_all;done)) qE qE ?_|refine fX hc qQ qK qG ?_|refine dK hc qQ qK qG ?_|refine cH hc Qh qG ?_|refine dM hc qC qK qC Qh qG ?_|fail)
   all_goals try(exfalso;omega)
   all_goals try contradiction
   all_goals(refine Zl hc (hr:=?_))
   all_goals simp
 ·clear l1 l2 l3 l4 l5 hF
  rw[show kB (Lib.cut s [41]).2.1 [115]=(Lib.cut s [41]).2.1 by unfold kB;rw[if_neg hs]]at h4 h5 h6 h7⊢
  simp only at h6 h7⊢
  rw[if_neg hs]at h6 h7⊢
  generalize IP _=kk at h7⊢
  generalize bX _=cc at h6 h7⊢
  generalize Lib.cut (Lib.cut s [41]).2.1 [63]=z3 at h5 h6 h7⊢
  generalize gO (Lib.cut (Lib.cut s [41]).1 [58]).1 44 46=ho at h3 h6 h7⊢
  generalize Lib.cut (Lib.cut s [41]).1 [58]=z2 at h2 h3 h6 h7⊢
  generalize Lib.cut s [41]=z1 at h1 h2 h4 h5 h6 h7 hs⊢
  by_cases hcc:cc=0
  ·have h8:=h7 hcc
   clear h7
   subst hcc
   repeat' (first|refine Wd ?_|(refine Wc ?_ ?_<;>intro hb<;>try simp at hb)|refine Zw hc (hf:=qY) (hk:=?_)|refine Zq hc (hf:=qY) (hk:=?_)|refine Wn ?_|fail)
   all_goals try(exfalso;omega)
   all_goals try contradiction
   ·rw[if_pos (by
     rcases hb with h|h
     ·exact .inl h
     ·exact .inr (.inr h))]
    (refine Zl hc (hr:=?_))
    simp
   ·rw[if_neg (fun e=>by
     rcases e with h|h|h
     ·exact hb.1 h.1 h.2
     ·exact h rfl
     ·exact h hb.2)]
    (refine Zl hc (hr:=?_))
    simp
  ·clear h7
   rw[if_pos (.inr (.inl hcc))]
   repeat' (first|refine Wd ?_|(refine Wc ?_ ?_<;>intro hb<;>try simp at hb)|refine cP hc qA qA qA qA qA (fun _=>by first|exact h1|exact h2|exact h3|exact h4|exact h5|exact h6|exact(show aJ _ _ _ (str [])from by exfalso;simp_all;done)) qE qE ?_|refine cW hc qA qA qA qA qA (fun _=>by first|exact h1|exact h2|exact h3|exact h4|exact h5|exact h6|exact(show aJ _ _ _ (str [])from by exfalso;simp_all;done)) qE qE ?_|refine fX hc qQ qK qG ?_|refine dK hc qQ qK qG ?_|refine cH hc Qh qG ?_|refine dM hc qC qK qC Qh qG ?_|fail)
   all_goals try(exfalso;omega)
   all_goals try contradiction
   all_goals(refine Zl hc (hr:=?_))
   all_goals simp
theorem BL:aJ Tryz.prog 31 [noL] (int (0:Nat)):=by
 refine aW Tryz.func31 rfl qC Tryz.ntmps31 _ rfl qE fun C hc=>?_
 repeat' (first|refine Wd ?_|(refine Wc ?_ ?_<;>intro hb<;>try simp at hb)|refine Wn ?_|fail)
 all_goals try contradiction
 refine aN (fun _:Unit=>⟨[(10,.d (int 0)),(11,.d (int 0))],[]⟩) (fun _=>True) (fun _=>0) () trivial (aG [10,11] [] qA qA) ?_
 rintro _ _
 repeat' (first|refine Wd ?_|(refine Wc ?_ ?_<;>intro hb<;>try simp at hb)|refine Wn ?_|fail)
 all_goals try contradiction
 (refine Zl hc (hr:=?_))
 simp
theorem NM (a:Adr) (hf:a.Fits):aJ Tryz.prog 9 [dI a,noL] (.tup [str (J1 a).1,int (J1 a).2]):=by
 refine aW Tryz.func9 rfl qC Tryz.ntmps9 _ rfl qE fun C hc=>?_
 have hC:=eL a hf
 have hN:=nW kL a hf
 have hS:=BL
 unfold J1
 by_cases h1:bX a=0
 rotate_left
 ·rw[if_pos h1]
  repeat' (first|refine Wd ?_|(refine Wc ?_ ?_<;>intro hb<;>try simp at hb)|refine Zw hc (hf:=qV) (hk:=?_)|refine Zq hc (hf:=qV) (hk:=?_)|refine Wn ?_|fail)
  all_goals try contradiction
  (refine Zl hc (hr:=?_))
  simp
 rw[if_neg (fun h=>h h1)]
 rw[h1]at hC
 have hK:=J3 a h1
 by_cases h2:bX (bQ a)=0
 ·rw[if_neg (fun h=>h h2)]
  have e:eF a=(bQ a,0):=by unfold eF;rw[if_neg (fun h=>h h1),if_neg (fun h=>h h2)]
  rw[e]at hN
  generalize bQ a=b at hN
  repeat' (first|refine Wd ?_|(refine Wc ?_ ?_<;>intro hb<;>try simp at hb)|refine Zw hc (hf:=q9) (hk:=?_)|refine Zq hc (hf:=q9) (hk:=?_)|refine Wn ?_|fail)
  all_goals try contradiction
  (refine Zl hc (hr:=?_))
  simp
 ·rw[if_pos h2]
  have e:eF a=(Adr.zero,bX (bQ a)):=by unfold eF;rw[if_neg (fun h=>h h1),if_pos h2]
  rw[e]at hN
  generalize bX (bQ a)=k at hN h2⊢
  repeat' (first|refine Wd ?_|(refine Wc ?_ ?_<;>intro hb<;>try simp at hb)|refine Zw hc (hf:=q9) (hk:=?_)|refine Zq hc (hf:=q9) (hk:=?_)|refine Wn ?_|fail)
  all_goals try contradiction
  (refine Zl hc (hr:=?_))
  simp
theorem Lz (s:Bs) (hm:s.length≤9223372036854775807):aJ Tryz.prog 18 [str s] (.tup [dI (ofK s).1,int (ofK s).2]):=by
 refine aW Tryz.func18 rfl qC Tryz.ntmps18 _ rfl qE fun C hc=>?_
 have h:=NL s hm
 generalize ofK s=x at h⊢
 repeat' (first|refine Wd ?_|(refine Wc ?_ ?_<;>intro hb<;>try simp at hb)|refine Zw hc (hf:=Qc) (hk:=?_)|refine Zq hc (hf:=Qc) (hk:=?_)|refine Wn ?_|fail)
 (refine Zl hc (hr:=?_))
 simp
set_option maxHeartbeats 8000000
theorem wO:Adr.zero.Fits:=by constructor<;>decide
theorem NN (s:Bs):(ofK s).1.Fits:=by
 rcases Cz s with⟨_,h⟩|⟨_,_,h,_⟩
 ·rw[h]
  exact wO
 ·exact pM h
theorem uK (s:Bs) (hs:s.length≤9223372036854775807):aV Tryz.prog 18 [str s] (fun d=> ∃(a:Adr) (e:Nat),d= .tup [dI a,int e]∧a.Fits∧(e=0→s.length≤2000)):=
 ⟨_,⟨_,_,rfl,NN s,fun h=>by
   rcases Cz s with⟨h1,_⟩|⟨_,h1,_⟩
   ·exact absurd h h1
   ·exact h1⟩,Lz s hs⟩
def pR (s:Sto):Prop:= ∀a:Adr,a.Fits→aV Tryz.prog 9 [dI a,DF s.R] (fun d=> ∃(k:Bs) (e:Int),d= .tup [str k,int e]∧k.length≤20000000000)
theorem NO (st:Int) (rs:Bs) (K:List (Bs×Bs)) (nb:Nat) (gb:Nat→UInt8) (hrs:rs.length≤1000000) (hK:iO K) (key:Bs) (hk:key.length≤9223372036854775807):aV Tryz.prog 39 [v7 st rs K nb gb,str key] (fun d=> ∃(a:Adr) (t:Bool),d= .tup [dI a,tru t]∧(t=true→a.Fits)):=by
 refine bI Tryz.func39 rfl qC Tryz.ntmps39 _ rfl qE ?_
 repeat' (first|refine Va ?_|(with_reducible refine aB (ht:=fun hb=>?_) (hf:=fun hb=>?_)<;>(try simp at hb))|refine Vn ?_|refine Vl (hG:=?_)|(refine Ve (hf:=uK key hk) (hk:=?_);rintro _ ⟨b,e,rfl,hF,_⟩)|(refine Ve (hf:=IK st rs K nb gb hrs hK b hF) (hk:=?_);rintro _ ⟨a,t,t2,e2,rfl,ha⟩)|fail)
 refine⟨a,_,rfl,fun h=>ha ?_⟩
 simp at h
 exact h.2
abbrev ksD (K:List Bs):D:= .sl K.length fun i=>[str (K[i]?.getD [])]
theorem ksE (K:List Bs) (key:Bs):(D.sl (K.length+1) fun i=>(List.map (fun y=>[str y]) K++[[str key]])[i]?.getD [str []])=ksD (K++[key]):=by
 have e:List.map (fun y=>[str y]) K++[[str key]]=(K++[key]).map fun y=>[str y]:=by simp
 have h:(fun i:Nat=>(List.map (fun y=>[str y]) K++[[str key]])[i]?.getD [str []])=fun i=>[str ((K++[key])[i]?.getD [])]:=by
  funext i
  rw[e,List.getElem?_map]
  exact MM _
 rw[h,ksD,show(K++[key]).length=K.length+1 from by simp]
theorem Rh (s:Sto) (hs:s.Fit) (hR:pR s) (L:List (Key×D)) (h:rV s L) (key0:Bs) (hk0:key0.length≤9223372036854775807) (t dr:Int) (ht:Mom t):aV Tryz.prog 13 [AB s L,str key0,int t,int dr,int 20] (fun d=> ∃K:List Bs,K.length≤21∧(d= .tup [ksD K,enZ,tru false]∨ ∃i,i<s.ne∧d= .tup [ksD K,(s.en i).d,tru true]∧ ∃j,j<s.ne∧(s.en j).key=key0)):=by
 refine bI Tryz.func13 rfl qC Tryz.ntmps13 _ rfl qE ?_
 repeat' (first|refine Va ?_|(with_reducible refine aB (ht:=fun hb=>?_) (hf:=fun hb=>?_)<;>(try simp at hb))|refine Vn ?_|refine Vl (hG:=?_)|fail)
 refine dP [(13,none,40000,9,[str []])] [0,1,2,3,4,11,13] [11,40000] (fun x:Bs×List Bs=>[(1,.d (str x.1)),(13,.os 40000 x.2.length)]) (fun x=>[(40000,.own 9 1 (true,[str []]) (x.2.map fun y=>[str y]))]) (fun x=>x.1.length≤9223372036854775807∧x.2.length≤20∧(x.1=key0∨ ∃j,j<s.ne∧(s.en j).key=key0)) (fun x=>21-x.2.length) (key0,[]) ⟨hk0,qE,.inl rfl⟩ ?_
 rintro Lp hL ⟨key,K⟩ ⟨hk,hKl,hfirst⟩ ih
 simp only at hk hKl hfirst ih⊢
 have hC:aJ Tryz.prog 37 [.sl K.length fun i=>[str (K[i]?.getD [])],str key] (tru (decide (key∈K))):=by
  have h:=iN K key qD
  have e:cE K= .sl K.length fun i=>[str (K[i]?.getD [])]:=by simp[cE]
  rw[e]at h
  exact h
 repeat' (first|refine Va ?_|(with_reducible refine aB (ht:=fun hb=>?_) (hf:=fun hb=>?_)<;>(try simp at hb))|refine Vn ?_|refine Vl (hG:=?_)|refine Vc (hf:=qV) (h:=?_)|(refine Ve (hf:=wF s hs L key hk t dr ht) (hk:=?_);rintro _ (rfl|⟨i,hi,rfl,h1,h2⟩))|(refine Ve (hf:=ID s L h i hi) (hk:=?_);rintro _ ⟨_,e,rfl,st,rs,M,m2,g2,rfl,hrs,hM,h3⟩)|(refine Ve (hf:=NO st rs M m2 g2 hrs hM key hk) (hk:=?_);rintro _ ⟨a,on,rfl,ha⟩)|fail)
 ·rw[ksE]
  exact⟨K++[key],qH,.inl rfl⟩
 ·rw[ksE]
  exact⟨K++[key],qH,.inl rfl⟩
 ·rw[ksE]
  exact⟨K++[key],qH,.inl rfl⟩
 all_goals
  have hf: ∃j,j<s.ne∧(s.en j).key=key0:=by
   rcases hfirst with e|e
   ·exact⟨i,hi,h1.trans e⟩
   ·exact e
 ·refine aQ (by
   intro r C hc hh
   refine bA (aG [11,13,15] [11,15,40000] qA qA) ?_
   (apply xL 5 hc qC rfl;(focus(refine tP 0 hc rfl qC rfl Q4 qA qE qA ?_;refine tP 2 hc rfl qC rfl Q4 qA qE qA ?_;refine Ah [1] qC rfl ?_;(focus(refine vR hc rfl (by simp;exact Ends.go) qF ?q120;refine Ah [3] qC rfl ?nq120;(focus(refine vR hc rfl (by simp;exact Ends.go) qF ?q121;refine tP 4 hc rfl qC rfl Q4 qA qE qA ?nq121;refine Cc qC ?_;exact aG [10,11,12] [11,40000] Qg Qg)))))))
   exact hh.get) ?_
  repeat' (first|refine Va ?_|(with_reducible refine aB (ht:=fun hb=>?_) (hf:=fun hb=>?_)<;>(try simp at hb))|refine Vn ?_|refine Vl (hG:=?_)|fail)
  rw[ksE]
  exact⟨K++[key],qH,.inr ⟨i,hi,rfl,hf⟩⟩
 ·obtain⟨_,⟨k2,e2,rfl,hk2⟩,hKey⟩:=hR a (ha qN)
  refine Vb ?_
  repeat' (first|refine Va ?_|(with_reducible refine aB (ht:=fun hb=>?_) (hf:=fun hb=>?_)<;>(try simp at hb))|refine Vn ?_|refine Vl (hG:=?_)|refine Vd (hf:=by exact hKey) (h:=?_)|(refine Ve (hf:=uK k2 qD) (hk:=?_);rintro _ ⟨b,e3,rfl,hF,hb3⟩)|fail)
  ·rw[ksE]
   exact⟨K++[key],qH,.inl rfl⟩
  ·exact Vk [0,1,2,3,4,11,13] [11,40000] hL (ih (k2,K++[key]) ⟨by have:=hb3 qD;simp only;omega,qH,.inr hf⟩ qH) (he:=qE)
set_option maxHeartbeats 4000000
theorem DX (s:Bs) (cs:Bs) (hcs:cs.length<4294967281) (ha:cs.all (fun b=>decide (b.toNat<128))=true):aJ Tryz.prog 121 [str s,str cs] (str (Lib.trimLeftS s cs)):=
 iA [.string (bs s),.string (bs cs)] qC fun w _=>by
  have h:Calls Tryz.prog 121 #[.string (bs s),.string (bs cs)] w (fun e w'=>e= .returned (.string ⟨(Lib.trimLeftS (bs s).data.toList (bs cs).data.toList).toArray⟩)∧Below w.heap.size w w'):=Any.strings_TrimLeft_laid Tryz.JD qC (bs s) (bs cs) w (by simpa using hcs) (ascii_of_all (by simpa using ha))
  simpa using h
theorem uL (s cs:Bs):(Lib.trimLeftS s cs).length≤s.length:=by
 unfold Lib.trimLeftS
 exact(List.dropWhile_suffix _).length_le
theorem CC (s cs:Bs):(Lib.trimS s cs).length≤s.length:=by
 unfold Lib.trimS
 refine Nat.le_trans (uL _ _) ?_
 unfold Lib.trimRightS
 have:=(List.dropWhile_suffix (l:=s.reverse) fun x=>cs.contains x).length_le
 simpa using this
theorem Ri (s:Bs) (c:UInt8) (hs:s.length≤1000000): ∃P:List Bs,P≠[]∧P.length≤1000002∧(∀i:Nat,(P[i]?.getD []).length≤1000000)∧aJ Tryz.prog 118 [str s,str [c]] (.sl P.length fun i=>[str (P[i]?.getD [])]):=by
 refine⟨Lib.split s [c],gM c s,by have:=fG s c;omega,fun i=>?_,?_⟩
 ·by_cases hi:i<(Lib.split s [c]).length
  ·have:=nM s c i hi
   omega
  ·rw[List.getElem?_eq_none qD]
   simp
 ·have h:=mM s c qD
  have e:cE (Lib.split s [c])= .sl (Lib.split s [c]).length fun i=>[str ((Lib.split s [c])[i]?.getD [])]:=by simp[cE]
  rw[e]at h
  exact h
theorem Tc (s p:Bs) (hs:s.length≤1000000):aV Tryz.prog 75 [str s,str p] (fun d=> ∃(x:Bs) (t:Bool),d= .tup [str x,tru t]∧x.length≤1000000):=
 ⟨_,⟨_,_,rfl,by unfold kB;split<;>(try simp)<;>omega⟩,fZ s p⟩
theorem LA (n:Nat) (a b:Nat→Bs) (h:oI n a b):aV Tryz.prog 54 [hdF n a b] (fun d=> ∃(t u:Bs) (ok:Bool) (f:Int),d= .tup [.agg [str t,str u],tru ok,int f]):=by
 refine bI Tryz.func54 rfl qC Tryz.ntmps54 _ rfl qE ?_
 repeat' (first|refine Va ?_|(with_reducible refine aB (ht:=fun hb=>?_) (hf:=fun hb=>?_)<;>(try simp at hb))|refine Vn ?_|refine Vl (hG:=?_)|(refine Ve (hf:=kA _ _ _ h) (hk:=?_);rintro _ ⟨e,rfl,he⟩)|(refine Ve (hf:=JH _ _ _ h _) (hk:=?_);rintro _ ⟨v,ok,rfl,hv,_⟩)|fail)
 ·exact⟨_,_,_,_,rfl⟩
 ·exact⟨_,_,_,_,rfl⟩
 obtain⟨P,hP0,hP1,hP2,hP⟩:=Ri v 59 hv
 have hp1:1≤P.length:=by cases P with|nil=>exact absurd rfl hP0|cons x P=>simp
 have h0:(P[0]?.getD []).length≤1000000:=hP2 0
 repeat' (first|refine Va ?_|(with_reducible refine aB (ht:=fun hb=>?_) (hf:=fun hb=>?_)<;>(try simp at hb))|refine Vn ?_|refine Vl (hG:=?_)|refine Vc (hf:=by exact hP) (h:=?_)|refine Vc (hf:=by exact Aq _ qD) (h:=?_)|refine Vc (hf:=by exact bP (Lib.trimS (P[0]?.getD []) [32,9]) (by have:=CC (P[0]?.getD []) [32,9];omega)) (h:=?_)|refine Vc (hf:=by exact uC _ _ qD) (h:=?_)|fail)
 ·exact⟨_,_,_,_,rfl⟩
 refine vU [2,9,43,44,45] [2,9] 45 (P.length-1) ?_
 intro L hL j hj ih
 by_cases hjn:j<P.length-1
 ·obtain⟨u,hu,hU⟩: ∃u:Bs,u.length≤1000000∧aJ Tryz.prog 121 [str (P[1+j]?.getD []),str [32,9]] (str u):=⟨_,by have:=uL (P[1+j]?.getD []) [32,9];have:=hP2 (1+j);omega,DX _ _ qE qK⟩
  obtain⟨u2,hu2,hU2⟩: ∃u2:Bs,u2.length≤1000000∧aJ Tryz.prog 65 [str u] (str u2):=⟨_,by simp[small];omega,bP u qD⟩
  obtain⟨_,⟨x,t,rfl,hx⟩,hX⟩:=Tc u2 [115,101,116,61] hu2
  have hxl:=CC x [32,9]
  repeat' (first|refine Va ?_|(with_reducible refine aB (ht:=fun hb=>?_) (hf:=fun hb=>?_)<;>(try simp at hb))|refine Vn ?_|refine Vl (hG:=?_)|refine Vc (hf:=by exact hU) (h:=?_)|refine Vc (hf:=by exact hU2) (h:=?_)|refine Vc (hf:=by exact hX) (h:=?_)|refine Vc (hf:=by exact Aq x qD) (h:=?_)|fail)
  all_goals try(exfalso;omega)
  all_goals first|exact⟨_,_,_,_,rfl⟩|exact Vk [2,9,43,44,45] [2,9] hL (ih (j+1) qD qD)
 ·repeat' (first|refine Va ?_|(with_reducible refine aB (ht:=fun hb=>?_) (hf:=fun hb=>?_)<;>(try simp at hb))|refine Vn ?_|refine Vl (hG:=?_)|fail)
  all_goals try(exfalso;omega)
  exact⟨_,_,_,_,rfl⟩
end Go.Proofs.YtdjfgcjlnfnfhaaGreatDoor
