/- PAGE: the scanner: attributes. (WITH run_drawN.) -/
import Derived.Test.YtdjfgcjlnfnfhaaGreatDoorAdA
import Derived.Lib.Builder
import Derived.Lib.UnsafeStr
import Derived.Lib.Strings
import Derived.Lib.Slices
import Derived.Lib.Walk
import Derived.Shelf.RegionOpenPlain
import Derived.Laws.Externs
import Derived.StillTailTactics
import Derived.Test.YtdjfgcjlnfnfhaaGreatDoorLwTail
import Derived.Test.YtdjfgcjlnfnfhaaGreatDoorLwEx
set_option linter.unusedSimpArgs false
set_option linter.unusedVariables false
namespace Go.Proofs.YtdjfgcjlnfnfhaaGreatDoor
open Go.Lw Go.RowKit Go.Shelf
set_option maxHeartbeats 1000000
set_option maxRecDepth 100000
theorem J4: ∃j,Tryz.prog.info? 319=some j∧j.size=2:=by
 have h:(Tryz.prog.info? 319).map (·.size)=some 2:=by kernel_rfl
 exact Option.map_eq_some_iff.1 h
theorem AO (b:Nat) (w:World) (h0:w.cell? ⟨b,0,none⟩=some (.pointer (some ⟨b,0,none⟩))):
 Calls Tryz.prog 295 #[.pointer (some ⟨b,0,none⟩)] w fun e w'=>e= .returned (.tuple #[])∧w'=w:=by
 obtain⟨j,hj,_⟩:=J4
 go_enter Tryz.func295,Tryz.ntmps295
 go_wp2
 rw[Lib.run_neq_ptr_same w _ Tryz.underlying317 hj]
 go_wp2
 go_end0
 exact⟨rfl,rfl⟩
theorem yN (b:Nat) (w:World) (h0:w.cell? ⟨b,0,none⟩=some (.pointer none)) (hsh:w.shape? b=some (319,2)) (hfz:w.frozen? ⟨b,0,none⟩=false):
 Calls Tryz.prog 295 #[.pointer (some ⟨b,0,none⟩)] w fun e w'=>e= .returned (.tuple #[])∧w'=w.setCell ⟨b,0,none⟩ (.pointer (some ⟨b,0,none⟩)):=by
 obtain⟨j,hj,hjs⟩:=J4
 go_enter Tryz.func295,Tryz.ntmps295
 go_wp2
 rw[Lib.run_to_unsafe w ⟨b,0,none⟩ Tryz.underlying317 Tryz.underlying414 hj (by rw[hjs];decide) hsh (Nat.zero_lt_succ 1)]
 simp only[Result.andThen]
 rw[Oper.upon_value]
 go_wp2
 rw[run_callFunc_extern Tryz.func333 qC qC qC (e:=Extern.AbiNoEscape.same) qC]
 rw[Lib.run_noEscape]
 simp only[Result.andThen]
 rw[Oper.upon_value]
 go_wp2
 rw[Lib.run_from_unsafe w ⟨b,0,none⟩ Tryz.underlying414 Tryz.underlying317 hj hsh qC]
 simp only[Result.andThen]
 rw[Oper.upon_value]
 go_wp2
 go_end0
 exact⟨rfl,rfl⟩
def jY (u:Bool) (id:Nat):V:=bif u then .bp id 0 else .d (.lit (.pointer none))
@[simp] theorem IW (j:Nat) (u:Bool) (id:Nat):bU j (jY u id)=(u&&id==j):=by cases u<;>simp[jY,bU]
@[simp] theorem Td (σ:List (Nat×Nat)) (u:Bool) (id:Nat):gJ σ (jY u id)=jY u (ren σ id):=by cases u<;>simp[jY]
@[simp] theorem Te (q:Nat→Bool) (u:Bool) (id:Nat):l6 q (jY u id)=(!u||q id):=by cases u<;>simp[jY]
@[simp] theorem Sj (j:Nat) (u:Bool) (id:Nat):oX j (jY u id)=if(u&&id==j)=true then .any else jY u id:=by
  unfold oX
  rw[IW]
  cases(u&&id==j)<;>rfl
@[simp] theorem Tf (u:Bool) (id:Nat):jK (jY u id)=true:=by cases u<;>rfl
theorem uM (u:Bool) (x:V) (ob:O):bJ Tryz.prog 295 [.bp 100000 0] [(100000,.box 319 [jY u 100000,x]),(100001,ob)] (.d (.tup [])) [(100000,.box 319 [.bp 100000 0,x]),(100001,ob)]:=by
 refine⟨qC,fun ok h w vs hok hstd hlow hlies hargs=>?_⟩
 obtain⟨b,cs,hb,hbk,hcs,hcell⟩:=hlies.obj 100000 _ rfl
 obtain⟨hblt,hbok⟩:=hlies.blk 100000 _ b rfl hb
 have hob:=hlies.obj 100001 ob rfl
 have hap: ∀b',(h 100001).blk=some b'→b'≠b:=fun b' h1 e=>by
  subst e
  exact hlies.apart 100000 100001 _ _ _ rfl rfl qK hb h1
 obtain⟨hvs,hva⟩:=hargs
 obtain⟨v0,hv0,hr0⟩:=hva 0 _ rfl
 obtain rfl:vs= #[.pointer (some ⟨b,0,none⟩)]:=by
  cases hr0 with
  |bp _ _ b' hb'=>
   obtain rfl:b=b':=Option.some.inj (hb.symm.trans hb')
   obtain⟨vs⟩:=vs
   match vs,hvs,hv0 with
   |[_],_,hv0=>cases hv0;rfl
 obtain⟨c0,hc0,hcr0⟩:=hcell 0 _ rfl
 obtain⟨c1,hc1,hcr1⟩:=hcell 1 _ rfl
 obtain rfl:cs= #[c0,c1]:=by
  obtain⟨cs⟩:=cs
  match cs,hcs,hc0,hc1 with
  |[_,_],_,hc0,hc1=>cases hc0;cases hc1;rfl
 have hcell0:w.cell? ⟨b,0,none⟩=some c0:=by simp[World.cell?,hbk]
 have same:Lw.Left [(100000,.box 319 [jY u 100000,x]),(100001,ob)] [(100000,.box 319 [.bp 100000 0,x]),(100001,ob)] (.d (.tup [])) ok h w ok h (w.setCell ⟨b,0,none⟩ (.pointer (some ⟨b,0,none⟩))) (.tuple #[]):=by
  have hs:(w.setCell ⟨b,0,none⟩ (.pointer (some ⟨b,0,none⟩))).heap.size=w.heap.size:=by simp[World.setCell]
  have hne: ∀k,k≠b→(w.setCell ⟨b,0,none⟩ (.pointer (some ⟨b,0,none⟩))).heap[k]?=w.heap[k]?:=fun k hk=>by
   simp only[World.setCell,Array.getElem?_modify,if_neg (fun e:b=k=>hk e.symm)]
  have hat:(w.setCell ⟨b,0,none⟩ (.pointer (some ⟨b,0,none⟩))).heap[b]?=some (.cells #[.pointer (some ⟨b,0,none⟩),c1] 319 (0,0)):=by
   simp[World.setCell,Array.getElem?_modify,hbk]
  have hokb: ∀k,ok k→(w.setCell ⟨b,0,none⟩ (.pointer (some ⟨b,0,none⟩))).heap[k]?=w.heap[k]?:=fun k hk=>hne k fun e=>hbok (e▸hk)
  have two: ∀id o,Lw.look id [(100000,O.box 319 [.bp 100000 0,x]),(100001,ob)]=some o→(id=100000∧o= .box 319 [.bp 100000 0,x])∨(id=100001∧o=ob):=fun id o hl=>by
   simp only[Lw.look]at hl
   split at hl
   ·rename_i e;cases hl;exact .inl ⟨e.symm,rfl⟩
   ·split at hl
    ·rename_i e;cases hl;exact .inr ⟨e.symm,rfl⟩
    ·cases hl
  have old: ∀id o,Lw.look id [(100000,O.box 319 [.bp 100000 0,x]),(100001,ob)]=some o→ ∃o',Lw.look id [(100000,O.box 319 [jY u 100000,x]),(100001,ob)]=some o':=fun id o hl=>by
   rcases two id o hl with⟨rfl,_⟩|⟨rfl,_⟩
   ·exact⟨_,rfl⟩
   ·exact⟨_,rfl⟩
  refine⟨rfl,rfl,rfl,qD,fun k hk hnl=>hne k fun e=>hnl ⟨100000,_,rfl,e▸hb⟩,fun k hk=>hk,fun k hk=>⟨by have:=hok k hk;omega,.inl hk⟩,⟨fun id o hl=>?_,fun id o b' hl hb'=>?_,fun id id' o o' b' hl hl' hne'=>?_⟩,fun id o b' hl hb'=>?_,fun _ _=>rfl,.d _ _ (.tup [] #[] (fun _=>undef) rfl (fun i hi=>by simp at hi) (fun i d hd=>by simp at hd))⟩
  ·rcases two id o hl with⟨rfl,rfl⟩|⟨rfl,rfl⟩
   ·refine⟨b,_,hb,hat,rfl,fun k y hk=>?_⟩
    match k,hk with
    |0,hk=>cases hk;exact⟨_,rfl,.bp 100000 0 b hb⟩
    |1,hk=>cases hk;exact⟨c1,rfl,hcr1.mono hokb fun _ hb=>hb⟩
   ·exact hob.mono hokb (fun _ hb=>hb) fun b' hb'=>hne b' (hap b' hb')
  ·obtain⟨o',ho'⟩:=old id o hl
   obtain⟨h1,h2⟩:=hlies.blk id o' b' ho' hb'
   exact⟨qD,h2⟩
  ·obtain⟨o1,ho1⟩:=old id o hl
   obtain⟨o2,ho2⟩:=old id' o' hl'
   exact hlies.apart id id' o1 o2 b' ho1 ho2 hne'
  ·obtain⟨o1,ho1⟩:=old id o hl
   exact .inr ⟨o1,ho1,hb'⟩
 cases u with
 |false=>
  have e0:c0= .pointer none:=aX hcr0
  subst e0
  refine(yN b w hcell0 (by simp[World.shape?,hbk]) (by simp[World.frozen?,hbk])).mono ?_
  rintro e w' ⟨rfl,rfl⟩
  exact⟨_,ok,h,rfl,same⟩
 |true=>
  have e0:c0= .pointer (some ⟨b,0,none⟩):=by
   cases hcr0 with
   |bp _ _ b' hb'=>obtain rfl:b=b':=Option.some.inj (hb.symm.trans hb');rfl
  subst e0
  have hw:w.setCell ⟨b,0,none⟩ (.pointer (some ⟨b,0,none⟩))=w:=by
   have hh:(w.setCell ⟨b,0,none⟩ (.pointer (some ⟨b,0,none⟩))).heap=w.heap:=by
    apply Array.ext_getElem?
    intro k
    simp only[World.setCell,Array.getElem?_modify]
    split
    ·rename_i e;subst e;rw[hbk];rfl
    ·rfl
   show{w with heap:=(w.setCell ⟨b,0,none⟩ (.pointer (some ⟨b,0,none⟩))).heap}=w
   rw[hh]
  rw[hw]at same
  refine(AO b w hcell0).mono ?_
  rintro e w' ⟨rfl,rfl⟩
  exact⟨_,ok,h,rfl,same⟩
abbrev bld (u:Bool) (a b:Nat) (m:Bs):List (Nat×O):=[(a,.box 319 [jY u a,.os b m.length]),(b,.own 5 1 (true,[.lit (.int .u8 0)]) (m.map aZ))]
theorem eO (u:Bool) (m l:Bs) (hm:m.length+l.length≤140737488355328):bJ Tryz.prog 217 [.bp 100000 0,.d (str l)] (bld u 100000 50001 m) (.d (.tup [int l.length,.lit .nilIface])) (bld true 100000 50001 (m++l)):=by
 refine cY Tryz.func217 rfl qC Tryz.ntmps217 _ rfl qE fun C hc=>?_
 repeat' (first|refine Wd ?_|(refine Wc ?_ ?_<;>intro hb<;>try simp at hb)|fail)
 (first|refine Wo ?_|fail)
 (first|refine aF ([(100000,100000),(100001,50001)]) (uM u (.os 100001 m.length) (.own 5 1 (true,[.lit (.int .u8 0)]) (m.map aZ))) hc qA qA qA qA qA rfl qA qA rfl qE qE qA qA ?_|fail)
 repeat' (first|refine Wd ?_|(refine Wc ?_ ?_<;>intro hb<;>try simp at hb)|fail)
 (refine aE [100000,50001] hc (aR rfl) qA qA qJ ?_)
 simp[jY]
theorem DY (u:Bool) (m:Bs) (c:UInt8) (hm:m.length+1≤140737488355328):bJ Tryz.prog 374 [.bp 100000 0,.d (u8 c)] (bld u 100000 50001 m) (.d (.lit .nilIface)) (bld true 100000 50001 (m++[c])):=by
 refine cY Tryz.func374 rfl qC Tryz.ntmps374 _ rfl qE fun C hc=>?_
 repeat' (first|refine Wd ?_|(refine Wc ?_ ?_<;>intro hb<;>try simp at hb)|fail)
 (first|refine Wo ?_|fail)
 (first|refine aF ([(100000,100000),(100001,50001)]) (uM u (.os 100001 m.length) (.own 5 1 (true,[.lit (.int .u8 0)]) (m.map aZ))) hc qA qA qA qA qA rfl qA qA rfl qE qE qA qA ?_|fail)
 repeat' (first|refine Wd ?_|(refine Wc ?_ ?_<;>intro hb<;>try simp at hb)|fail)
 (refine aE [100000,50001] hc (aR rfl) qA qA qJ ?_)
 simp[jY]
structure But (g:Nat) (w w':World):Prop where
 os:w'.os=w.os
 tape:w'.tape=w.tape
 output:w'.output=w.output
 size:w.heap.size≤w'.heap.size
 block: ∀k,k<w.heap.size→k≠g→w'.heap[k]?=w.heap[k]?
theorem IX (w:World) (g n:Nat):But g w (w.drew.freeze ⟨g,0,none⟩ n):=by
 unfold World.freeze
 split
 ·exact⟨rfl,rfl,rfl,Nat.le_refl _,fun _ _ _=>rfl⟩
 ·refine⟨rfl,rfl,rfl,by show w.heap.size≤(w.heap.modify g _).size;simp,fun k _ hne=>?_⟩
  simp only[Array.getElem?_modify,if_neg (fun e:g=k=>hne e.symm)]
  rfl
theorem cellsByte:Tryz.prog.cellsOf 5=1:=by kernel_rfl
set_option maxHeartbeats 2000000 in
theorem G7 (b g cap:Nat) (c0:Value) (cur:Array Value) (l:Bs) (h0:l≠[]) (w:World) (hbk:w.heap[b]?=some (.cells #[c0,.slice (some ⟨g,0,none⟩) l.length cap] 319 (0,0))) (hg:w.heap[g]?=some (.cells cur 5 (0,0)))
 (hnc:l.length≤cap) (hcm:cap≤maxLen) (hcs:cur.size=cap) (hl: ∀(j:Nat) (x:UInt8),l[j]?=some x→cur[j]?=some (.int .u8 x.toNat)):
 Calls Tryz.prog 218 #[.pointer (some ⟨b,0,none⟩)] w fun e w'=>e= .returned (.string (bs l))∧But g w w':=by
 have hl0:l.length≠0:=by simpa using h0
 have c1:w.drew.cell? ⟨b,1,none⟩=some (.slice (some ⟨g,0,none⟩) l.length cap):=by
  have:w.drew.heap[b]?=some (.cells #[c0,.slice (some ⟨g,0,none⟩) l.length cap] 319 (0,0)):=hbk
  rw[Lib.cell_of_heap this];rfl
 have hSD:(Builtin.unsafeSliceData_ #[35] 382 #[.slice (some ⟨g,0,none⟩) l.length cap]).run Tryz.prog w.drew= .ok (.pointer (some ⟨g,0,none⟩)) w.drew:=
  Lib.run_unsafeSliceData_row _ _ _ _ _ _ qD
 have hUS:(Builtin.unsafeString_ #[382,3] 9 #[.pointer (some ⟨g,0,none⟩),.int .i64 l.length]).run Tryz.prog w.drew= .ok (.string ⟨l.toArray⟩) (w.drew.freeze ⟨g,0,none⟩ l.length):=by
  refine Lib.run_unsafeString_row w.drew 382 3 9 5 Tryz.underlying382 cellsByte g cur.size QD l h0 qD (by unfold maxLen at hcm;omega) ?_
  intro j x hx
  have hg':w.drew.heap[g]?=some (.cells cur 5 (0,0)):=hg
  rw[show(⟨g,0,none⟩:Addr).add j=⟨g,j,none⟩by unfold Addr.add;split<;>simp_all,Lib.cell_of_heap hg']
  exact hl j x hx
 go_enter Tryz.func218,Tryz.ntmps218
 go_wp2
 go_still_tail 10,qC
 go_wp2
 go_ret
 exact⟨rfl,IX w g l.length⟩
theorem unsafeString_none (W:World) (q:Option Addr):(Builtin.unsafeString_ #[382,3] 9 #[.pointer q,.int .i64 0]).run Tryz.prog W= .ok (.string .empty) W:=
 Lib.run_unsafeString_none W _ _ _ q
theorem IY (b:Nat) (c0:Value) (w:World) (hbk:w.heap[b]?=some (.cells #[c0,.slice none 0 0] 319 (0,0))):
 Calls Tryz.prog 218 #[.pointer (some ⟨b,0,none⟩)] w fun e w'=>e= .returned (.string (bs []))∧Below w.heap.size w w':=by
 have hUS:=unsafeString_none
 have c1:w.drew.cell? ⟨b,1,none⟩=some (.slice none 0 0):=by
  have:w.drew.heap[b]?=some (.cells #[c0,.slice none 0 0] 319 (0,0)):=hbk
  rw[Lib.cell_of_heap this];rfl
 have hSD:(Builtin.unsafeSliceData_ #[35] 382 #[.slice none 0 0]).run Tryz.prog w.drew= .ok (.pointer none) w.drew:=rfl
 go_enter Tryz.func218,Tryz.ntmps218
 go_wp2
 go_still_tail 10,qC
 go_wp2
 go_ret
 exact⟨rfl,Below.drew (Below.refl _ w)⟩
theorem G8 (b g cap:Nat) (hc0:cap≠0) (c0:Value) (w:World) (hbk:w.heap[b]?=some (.cells #[c0,.slice (some ⟨g,0,none⟩) 0 cap] 319 (0,0))):
 Calls Tryz.prog 218 #[.pointer (some ⟨b,0,none⟩)] w fun e w'=>e= .returned (.string (bs []))∧Below w.heap.size w w':=by
 have hUS:=unsafeString_none
 have c1:w.drew.cell? ⟨b,1,none⟩=some (.slice (some ⟨g,0,none⟩) 0 cap):=by
  have:w.drew.heap[b]?=some (.cells #[c0,.slice (some ⟨g,0,none⟩) 0 cap] 319 (0,0)):=hbk
  rw[Lib.cell_of_heap this];rfl
 have hSD:(Builtin.unsafeSliceData_ #[35] 382 #[.slice (some ⟨g,0,none⟩) 0 cap]).run Tryz.prog w.drew= .ok (.pointer (some ⟨g,0,none⟩)) w.drew:=
  Lib.run_unsafeSliceData_row _ _ _ _ _ _ hc0
 clear hc0
 go_enter Tryz.func218,Tryz.ntmps218
 go_wp2
 go_still_tail 10,qC
 go_wp2
 go_ret
 exact⟨rfl,Below.drew (Below.refl _ w)⟩
set_option maxHeartbeats 2000000 in
theorem BM (b g:Nat) (c0:Value) (cur:Array Value) (w:World) (hbk:w.heap[b]?=some (.cells #[c0,.slice (some ⟨g,0,none⟩) 0 0] 319 (0,0))) (hg:w.heap[g]?=some (.cells cur 5 (0,0))):
 Calls Tryz.prog 218 #[.pointer (some ⟨b,0,none⟩)] w fun e w'=>e= .returned (.string (bs []))∧Below w.heap.size w w':=by
 have mixed:Tryz.prog.follows .mixedOrders=true:=by kernel_rfl
 have hUS:=unsafeString_none
 have hlt:b<w.heap.size:=(Array.getElem?_eq_some_iff.1 hbk).1
 have c1:w.drew.cell? ⟨b,1,none⟩=some (.slice (some ⟨g,0,none⟩) 0 0):=by
  have:w.drew.heap[b]?=some (.cells #[c0,.slice (some ⟨g,0,none⟩) 0 0] 319 (0,0)):=hbk
  rw[Lib.cell_of_heap this];rfl
 have hSD:(Builtin.unsafeSliceData_ #[35] 382 #[.slice (some ⟨g,0,none⟩) 0 0]).run Tryz.prog w.drew= .ok (.pointer (some ⟨w.drew.heap.size,0,none⟩)) (w.drew.alloc (.view ⟨g,0,none⟩ 5)):=
  Lib.run_unsafeSliceData_zero w.drew _ _ 5 Tryz.underlying382 ⟨g,0,none⟩ 0 (5,cur.size) QD
 have c2:(w.drew.alloc (.view ⟨g,0,none⟩ 5)).cell? ⟨b,1,none⟩=some (.slice (some ⟨g,0,none⟩) 0 0):=by
  have:(w.drew.alloc (.view ⟨g,0,none⟩ 5)).heap[b]?=_:=(Lib.alloc_old w.drew _ b hlt).trans hbk
  rw[Lib.cell_of_heap this];rfl
 have c3:(w.alloc (.view ⟨g,0,none⟩ 5)).drew.cell? ⟨b,1,none⟩=some (.slice (some ⟨g,0,none⟩) 0 0):=c2
 have c0':w.cell? ⟨b,1,none⟩=some (.slice (some ⟨g,0,none⟩) 0 0):=c1
 go_enter Tryz.func218,Tryz.ntmps218
 go_wp2
 go_region_o
 all_goals(go_wp2;go_ret;exact⟨rfl,(Below.drew (Below.refl _ w)).alloc (Nat.le_refl _) _⟩)
theorem CD (u:Bool) (m:Bs):bJ Tryz.prog 218 [.bp 100000 0] (bld u 100000 50001 m) (.d (str m)) []:=by
 refine⟨qC,fun ok h w vs hok hstd hlow hlies hargs=>?_⟩
 obtain⟨b,cs,hb,hbk,hcs,hcell⟩:=hlies.obj 100000 _ rfl
 obtain⟨hsz,hcm,hown⟩:=hlies.obj 50001 _ rfl
 obtain⟨hvs,hva⟩:=hargs
 obtain⟨v0,hv0,hr0⟩:=hva 0 _ rfl
 obtain rfl:vs= #[.pointer (some ⟨b,0,none⟩)]:=by
  cases hr0 with
  |bp _ _ b' hb'=>
   obtain rfl:b=b':=Option.some.inj (hb.symm.trans hb')
   obtain⟨vs⟩:=vs
   match vs,hvs,hv0 with
   |[_],_,hv0=>cases hv0;rfl
 obtain⟨c0,hc0,hcr0⟩:=hcell 0 _ rfl
 obtain⟨c1,hc1,hcr1⟩:=hcell 1 _ rfl
 obtain rfl:cs= #[c0,c1]:=by
  obtain⟨cs⟩:=cs
  match cs,hcs,hc0,hc1 with
  |[_,_],_,hc0,hc1=>cases hc0;cases hc1;rfl
 have left: ∀w',(∀k,k<w.heap.size→ ¬(∃id,Lw.nC h (bld u 100000 50001 m) id k)→w'.heap[k]?=w.heap[k]?)→w'.os=w.os→w'.tape=w.tape→w'.output=w.output→w.heap.size≤w'.heap.size→
  Lw.Left (bld u 100000 50001 m) [] (.d (str m)) ok h w ok h w' (.string (bs m)):=fun w' h1 h2 h3 h4 h5=>
  ⟨h2,h3,h4,h5,h1,fun k hk=>hk,fun k hk=>⟨by have:=hok k hk;omega,.inl hk⟩,⟨(fun id o hl=>by cases hl),(fun id o b hl=>by cases hl),(fun id id' o o' b hl=>by cases hl)⟩,(fun id o b hl=>by cases hl),fun _ _=>rfl,.d _ _ (.lit _)⟩
 have below: ∀w',Below w.heap.size w w'→Lw.Left (bld u 100000 50001 m) [] (.d (str m)) ok h w ok h w' (.string (bs m)):=fun w' hw=>left w' (fun k hk _=>hw.block k hk) hw.os hw.tape hw.output hw.size
 generalize hc1':c1=v1 at hcr1
 cases hcr1 with
 |os _ _ hcap=>
  subst hc1'
  rcases hown with⟨h1,h2,h3⟩|⟨g,cur,fz,h1,h2,h3,h4,h5,h6,h7⟩
  ·obtain rfl:m=[]:=by simpa using h2
   have hbk':w.heap[b]?=some (.cells #[c0,.slice none 0 0] 319 (0,0)):=by rw[hbk];simp[Hd.addr,h1,h3]
   refine(IY b c0 w hbk').mono ?_
   rintro e w' ⟨rfl,hw⟩
   exact⟨_,ok,h,rfl,below w' hw⟩
  ·obtain rfl:=h4 rfl
   have hbk':w.heap[b]?=some (.cells #[c0,.slice (some ⟨g,0,none⟩) m.length (h 50001).cap] 319 (0,0)):=by rw[hbk];simp[Hd.addr,h1]
   by_cases hm:m=[]
   ·subst hm
    by_cases hz:(h 50001).cap=0
    ·rw[hz]at hbk'
     refine(BM b g c0 cur w hbk' h2).mono ?_
     rintro e w' ⟨rfl,hw⟩
     exact⟨_,ok,h,rfl,below w' hw⟩
    ·refine(G8 b g _ hz c0 w hbk').mono ?_
     rintro e w' ⟨rfl,hw⟩
     exact⟨_,ok,h,rfl,below w' hw⟩
   ·refine(G7 b g (h 50001).cap c0 cur m hm w hbk' h2 hcap hcm qD (fun j x hx=>?_)).mono ?_
    ·obtain⟨_,h9⟩:=h7 j (aZ x) (by simp[hx])
     obtain⟨v,h10,h11⟩:=h9 0 _ rfl
     cases h11
     simpa using h10
    ·rintro e w' ⟨rfl,hw⟩
     exact⟨_,ok,h,rfl,left w' (fun k hk hn=>hw.block k hk fun e=>hn ⟨50001,_,rfl,e▸h1⟩) hw.os hw.tape hw.output hw.size⟩
end Go.Proofs.YtdjfgcjlnfnfhaaGreatDoor
namespace Go.Proofs.YtdjfgcjlnfnfhaaGreatDoor
open Go.Lw
set_option maxRecDepth 100000
set_option maxHeartbeats 1000000
def ent (c:UInt8):Bs:=
 if c=38 then[38,97,109,112,59]else if c=60 then[38,108,116,59]else if c=62 then[38,103,116,59]else if c=34 then[38,113,117,111,116,59]else if c=39 then[38,35,51,57,59]else[c]
def safe (l:Bs):Bs:=l.flatMap ent
theorem J5 (c:UInt8):(ent c).length≤6:=by unfold ent;(repeat' split)<;>simp
theorem AP (l:Bs):(safe l).length≤6*l.length:=by
 induction l with
 |nil=>simp[safe]
 |cons c l ih=>
  have:=J5 c
  simp only[safe,List.flatMap_cons,List.length_append,List.length_cons]at ih⊢
  omega
theorem LB (l:Bs) (j:Nat) (h:j<l.length):safe (l.take (j+1))=safe (l.take j)++ent (l[j]?.getD 0):=by
 have e:l.take (j+1)=l.take j++[l[j]]:=by rw[List.take_add_one];simp[h]
 rw[e]
 unfold safe
 rw[List.flatMap_append]
 simp[h]
abbrev NP:List (List D):=[[str [38,97,109,112,59],str [38]],[str [38,108,116,59],str [60]],[str [38,103,116,59],str [62]],[str [38,113,117,111,116,59],str [34]],[str [38,35,51,57,59],str [39]]]
abbrev IZ:D:= .sl 5 fun i=>NP[i]?.getD [str [],str []]
theorem uN:aJ Tryz.prog 275 [] IZ:=by
 refine aW Tryz.func275 rfl qC Tryz.ntmps275 _ rfl qE fun C hc=>?_
 repeat' (first|refine Wd ?_|(refine Wc ?_ ?_<;>intro hb<;>try simp at hb)|fail)
 (refine Zl hc (hr:=?_))
 simp
theorem sub_one (l:Bs) (j:Nat) (h:j<l.length):(l.take (j+1)).drop j=[l[j]?.getD 0]:=by
 rw[List.drop_take,show j+1-j=1 by omega,List.drop_eq_getElem_cons h,List.take_succ_cons,List.take_zero]
 simp[h]
theorem NQ (l:Bs) (hm:l.length≤1000000000):aJ Tryz.prog 183 [str l] (str (safe l)):=by
 refine aW Tryz.func183 rfl qC Tryz.ntmps183 _ rfl qE fun C hc=>?_
 repeat' (first|refine Wd ?_|(refine Wc ?_ ?_<;>intro hb<;>try simp at hb)|fail)
 refine aN (fun x:Nat×Bool=>⟨[(0,.d (str l)),(3,.bp 3 0),(9,.d (int l.length)),(10,.d (int x.1))],bld x.2 3 40000 (safe (l.take x.1))⟩) (fun x=>x.1≤l.length) (fun x=>l.length-x.1) (0,false) qE (cQ [(3,some 1,40000,5,[.lit (.int .u8 0)])] [0,3,9,10] [3,40000] qA qA qA) ?_
 rintro⟨j,u⟩ hj
 simp only at hj⊢
 have hsub:=sub_one l j
 repeat' (first|refine Wd ?_|(refine Wc ?_ ?_<;>intro hb<;>try simp at hb)|refine Zw hc (hf:=by exact uN) (hk:=?_)|refine Zq hc (hf:=by exact uN) (hk:=?_)|refine Wo ?_|fail)
 ·rw[hsub qD]
  generalize hc0:l[j]?.getD 0=c
  refine aN (fun k:Nat=>⟨[(3,.bp 3 0),(0,.d (str l)),(9,.d (int l.length)),(10,.d (int j)),(5,.d (str [c])),(18,.d IZ),(19,.d (int 5)),(20,.d (int k))],bld u 3 40000 (safe (l.take j))⟩) (fun k=>k≤5∧(0<k→c≠38)∧(1<k→c≠60)∧(2<k→c≠62)∧(3<k→c≠34)∧(4<k→c≠39)) (fun k=>5-k) 0 qE (aG [3,0,9,10,5,18,19,20] [3,40000] qA qA) ?_
  rintro k ⟨hk,h0,h1,h2,h3,h4⟩
  have hes:=LB l j qD
  rw[hc0]at hes
  have hsl:=AP (l.take j)
  have htl:(l.take j).length≤j:=List.length_take_le _ _
  have hel:=J5 c
  obtain rfl|rfl|rfl|rfl|rfl|rfl:k=0∨k=1∨k=2∨k=3∨k=4∨k=5:=by omega
  all_goals repeat' (first|refine Wd ?_|(refine Wc ?_ ?_<;>intro hb<;>try simp at hb)|refine Wo ?_|((first|refine gZ ([(100000,3),(50001,40000)]) (eO u (safe (l.take j)) _) hc qA qA qA qA qA rfl qA qA rfl qE qE qA qA qF ?_|fail)))
  ·obtain rfl:=hb
   exact⟨(j+1,true),qH,qH,aC [0,3,9,10] [3,40000] qA qA qa3⟩
  ·exact⟨1,⟨qD,fun _ e=>hb e.symm,fun h=>by omega,fun h=>by omega,fun h=>by omega,fun h=>by omega⟩,qD,aC [3,0,9,10,5,18,19,20] [3,40000] qA qA qE⟩
  ·obtain rfl:=hb
   exact⟨(j+1,true),qH,qH,aC [0,3,9,10] [3,40000] qA qA qa3⟩
  ·exact⟨2,⟨qD,fun _=>h0 qD,fun _ e=>hb e.symm,fun h=>by omega,fun h=>by omega,fun h=>by omega⟩,qD,aC [3,0,9,10,5,18,19,20] [3,40000] qA qA qE⟩
  ·obtain rfl:=hb
   exact⟨(j+1,true),qH,qH,aC [0,3,9,10] [3,40000] qA qA qa3⟩
  ·exact⟨3,⟨qD,fun _=>h0 qD,fun _=>h1 qD,fun _ e=>hb e.symm,fun h=>by omega,fun h=>by omega⟩,qD,aC [3,0,9,10,5,18,19,20] [3,40000] qA qA qE⟩
  ·obtain rfl:=hb
   exact⟨(j+1,true),qH,qH,aC [0,3,9,10] [3,40000] qA qA qa3⟩
  ·exact⟨4,⟨qD,fun _=>h0 qD,fun _=>h1 qD,fun _=>h2 qD,fun _ e=>hb e.symm,fun h=>by omega⟩,qD,aC [3,0,9,10,5,18,19,20] [3,40000] qA qA qE⟩
  ·obtain rfl:=hb
   exact⟨(j+1,true),qH,qH,aC [0,3,9,10] [3,40000] qA qA qa3⟩
  ·exact⟨5,⟨qD,fun _=>h0 qD,fun _=>h1 qD,fun _=>h2 qD,fun _=>h3 qD,fun _ e=>hb e.symm⟩,qD,aC [3,0,9,10,5,18,19,20] [3,40000] qA qA qE⟩
  ·have e:ent c=[c]:=by unfold ent;rw[if_neg (h0 qD),if_neg (h1 qD),if_neg (h2 qD),if_neg (h3 qD),if_neg (h4 qD)]
   exact⟨(j+1,true),qH,qH,aC [0,3,9,10] [3,40000] qA qA (by simp[hes,e])⟩
 (first|refine aF ([(100000,3),(50001,40000)]) (CD u (safe (l.take j))) hc qA qA qA qA qA rfl qA qA rfl qE qE qA qA ?_|fail)
 repeat' (first|refine Wd ?_|(refine Wc ?_ ?_<;>intro hb<;>try simp at hb)|fail)
 (first|refine Wo ?_|fail)
 repeat' (first|refine Wd ?_|(refine Wc ?_ ?_<;>intro hb<;>try simp at hb)|fail)
 (refine Zl hc (hr:=?_))
 rw[List.take_of_length_le qD]
 simp
abbrev E5:List (Bs×UInt8):=[([38,97,109,112,59],38),([38,108,116,59],60),([38,103,116,59],62),([38,113,117,111,116,59],34),([38,35,51,57,59],39)]
def sg (r:Bs) (k:Nat):Option (Bs×UInt8):=(E5.take k).find? fun e=>e.1.isPrefixOf r
def iV:Bs→Bs
 |[]=>[]
 |c::r=>match sg (c::r) 5 with
  |some e=>e.2::iV (r.drop (e.1.length-1))
  |none=>c::iV r
termination_by l=>l.length
decreasing_by all_goals simp;try omega
theorem NS {a b r:Bs} (ha:a.isPrefixOf r=true) (hb:b.isPrefixOf r=true):a.isPrefixOf b=true∨b.isPrefixOf a=true:=by
 rw[List.isPrefixOf_iff_prefix]at*
 rw[List.isPrefixOf_iff_prefix]
 rcases Nat.le_total a.length b.length with h|h
 ·exact .inl (List.prefix_of_prefix_length_le ha hb h)
 ·exact .inr (List.prefix_of_prefix_length_le hb ha h)
theorem NT {r:Bs} {k:Nat} {e:Bs×UInt8} (h:sg r k=some e):e.1.isPrefixOf r=true∧e∈E5.take k:=⟨by have:=List.find?_some h;simpa using this,List.mem_of_find?_eq_some h⟩
theorem Tg {r:Bs} {k:Nat} {e:Bs×UInt8} (h:sg r k=some e):4≤e.1.length∧e.1.length≤r.length:=by
 obtain⟨h1,h2⟩:=NT h
 have h3:e∈E5:=List.mem_of_mem_take h2
 refine⟨?_,List.IsPrefix.length_le (List.isPrefixOf_iff_prefix.1 h1)⟩
 have: ∀e∈E5,4≤e.1.length:=by decide
 exact this e h3
theorem Rj (r:Bs) (k:Nat) (h:k<5):sg r (k+1)=(sg r k).or (if(E5[k]?.getD ([],0)).1.isPrefixOf r then some (E5[k]?.getD ([],0))else none):=by
 have hk:E5[k]?=some E5[k]:=List.getElem?_eq_getElem h
 unfold sg
 rw[List.take_add_one,hk]
 simp only[Option.toList_some,List.find?_append,Option.getD_some]
 congr 1
 cases hb:E5[k].1.isPrefixOf r<;>simp only[List.find?,hb]<;>rfl
theorem VO {r:Bs} {k:Nat} {e:Bs×UInt8} (h:k<5) (hs:sg r k=some e):(E5[k]?.getD ([],0)).1.isPrefixOf r=false:=by
 cases hb:(E5[k]?.getD ([],0)).1.isPrefixOf r with
 |false=>rfl
 |true=>
  exfalso
  obtain⟨h1,h2⟩:=NT hs
  have h3:=NS h1 hb
  have key: ∀k,k<5→ ∀e∈E5.take k,¬(e.1.isPrefixOf (E5[k]?.getD ([],0)).1=true∨(E5[k]?.getD ([],0)).1.isPrefixOf e.1=true):=by decide
  exact key k h e h2 h3
theorem wP (l:Bs):(iV l).length≤l.length:=by
 match l with
 |[]=>simp[iV]
 |c::r=>
  rw[iV]
  split
  ·rename_i e _
   have:=wP (r.drop (e.1.length-1))
   simp at this⊢;omega
  ·have:=wP r
   simp;omega
termination_by l.length
decreasing_by all_goals simp;try omega
theorem LC (l:Bs) (hm:l.length≤200000):aJ Tryz.prog 369 [str l] (str (iV l)):=by
 refine aW Tryz.func369 rfl qC Tryz.ntmps369 _ rfl qE fun C hc=>?_
 repeat' (first|refine Wd ?_|(refine Wc ?_ ?_<;>intro hb<;>try simp at hb)|fail)
 refine aN (fun x:Bs×Bs×Bool=>⟨[(0,.d (str x.1)),(3,.bp 3 0)],bld x.2.2 3 40000 x.2.1⟩) (fun x=>x.2.1.length+x.1.length≤200000∧iV l=x.2.1++iV x.1) (fun x=>x.1.length) (l,[],false) qH (cQ [(3,some 1,40000,5,[.lit (.int .u8 0)])] [0,3] [3,40000] qA qA qA) ?_
 rintro⟨r,m,u⟩ ⟨hl,hs⟩
 simp only at hl hs⊢
 repeat' (first|refine Wd ?_|(refine Wc ?_ ?_<;>intro hb<;>try simp at hb)|refine Zw hc (hf:=by exact uN) (hk:=?_)|refine Zq hc (hf:=by exact uN) (hk:=?_)|refine Wo ?_|fail)
 ·refine aN (fun x:Nat×Option (Bs×UInt8)=>⟨[(0,.d (str r)),(3,.bp 3 0),(4,.d (int ((x.2.map fun e=>(e.1.length:Int)).getD 1))),(9,.d IZ),(10,.d (int 5)),(11,.d (int x.1))],bld (u||x.2.isSome) 3 40000 (m++(x.2.map (·.2)).toList)⟩) (fun x=>x.1≤5∧x.2=sg r x.1) (fun x=>5-x.1) (0,none) (by simp[sg]) (aG [0,3,4,9,10,11] [3,40000] qA qA) ?_
  rintro⟨k,p⟩ ⟨hk,hp⟩
  simp only at hk hp⊢
  have hn:=fun h:k<5=>Rj r k h
  have hno:=fun(h:k<5) e (he:sg r k=some e)=>VO h he
  have hle:=fun e (he:sg r k=some e)=>Tg he
  obtain rfl|rfl|rfl|rfl|rfl|rfl:k=0∨k=1∨k=2∨k=3∨k=4∨k=5:=by omega
  ·obtain _|e:=p
   ·simp only[Option.map_none,Option.map_some,Option.getD_none,Option.getD_some,Option.isSome_none,Option.isSome_some,Option.toList_none,Option.toList_some,Bool.or_false,Bool.or_true,List.append_nil]
    repeat' (first|refine Wd ?_|(refine Wc ?_ ?_<;>intro hb<;>try simp at hb)|refine Zw hc (hf:=qR) (hk:=?_)|refine Zq hc (hf:=qR) (hk:=?_)|refine Wo ?_|((first|refine gZ ([(100000,3),(50001,40000)]) (eO _ m _) hc qA qA qA qA qA rfl qA qA rfl qE qE qA qA qF ?_|fail)))
    ·have h1:sg r 1=some ([38,97,109,112,59],38):=by rw[hn qD,←hp];simp[hb]
     exact⟨(1,some ([38,97,109,112,59],38)),⟨qE,h1.symm⟩,qE,aC [0,3,4,9,10,11] [3,40000] qA qA qE⟩
    ·have hb':(E5[0]?.getD ([],0)).1.isPrefixOf r=false:=hb
     have h1:sg r 1=none:=by rw[hn qD,←hp,if_neg qa0];rfl
     exact⟨(1,none),⟨qE,h1.symm⟩,qE,aC [0,3,4,9,10,11] [3,40000] qA qA qE⟩
   ·have hz:=hno qD e hp.symm
    simp only[Option.map_none,Option.map_some,Option.getD_none,Option.getD_some,Option.isSome_none,Option.isSome_some,Option.toList_none,Option.toList_some,Bool.or_false,Bool.or_true,List.append_nil]
    repeat' (first|refine Wd ?_|(refine Wc ?_ ?_<;>intro hb<;>try simp at hb)|refine Zw hc (hf:=qR) (hk:=?_)|refine Zq hc (hf:=qR) (hk:=?_)|refine Wo ?_|fail)
    ·exfalso
     rw[←List.isPrefixOf_iff_prefix]at hb
     have:=hz.symm.trans hb
     cases this
    ·have h1:sg r 1=some e:=by rw[hn qD,←hp];rfl
     exact⟨(1,some e),⟨qE,h1.symm⟩,qE,aC [0,3,4,9,10,11] [3,40000] qA qA qE⟩
  ·obtain _|e:=p
   ·simp only[Option.map_none,Option.map_some,Option.getD_none,Option.getD_some,Option.isSome_none,Option.isSome_some,Option.toList_none,Option.toList_some,Bool.or_false,Bool.or_true,List.append_nil]
    repeat' (first|refine Wd ?_|(refine Wc ?_ ?_<;>intro hb<;>try simp at hb)|refine Zw hc (hf:=qR) (hk:=?_)|refine Zq hc (hf:=qR) (hk:=?_)|refine Wo ?_|((first|refine gZ ([(100000,3),(50001,40000)]) (eO _ m _) hc qA qA qA qA qA rfl qA qA rfl qE qE qA qA qF ?_|fail)))
    ·have h1:sg r 2=some ([38,108,116,59],60):=by rw[hn qD,←hp];simp[hb]
     exact⟨(2,some ([38,108,116,59],60)),⟨qE,h1.symm⟩,qE,aC [0,3,4,9,10,11] [3,40000] qA qA qE⟩
    ·have hb':(E5[1]?.getD ([],0)).1.isPrefixOf r=false:=hb
     have h1:sg r 2=none:=by rw[hn qD,←hp,if_neg qa0];rfl
     exact⟨(2,none),⟨qE,h1.symm⟩,qE,aC [0,3,4,9,10,11] [3,40000] qA qA qE⟩
   ·have hz:=hno qD e hp.symm
    simp only[Option.map_none,Option.map_some,Option.getD_none,Option.getD_some,Option.isSome_none,Option.isSome_some,Option.toList_none,Option.toList_some,Bool.or_false,Bool.or_true,List.append_nil]
    repeat' (first|refine Wd ?_|(refine Wc ?_ ?_<;>intro hb<;>try simp at hb)|refine Zw hc (hf:=qR) (hk:=?_)|refine Zq hc (hf:=qR) (hk:=?_)|refine Wo ?_|fail)
    ·exfalso
     rw[←List.isPrefixOf_iff_prefix]at hb
     have:=hz.symm.trans hb
     cases this
    ·have h1:sg r 2=some e:=by rw[hn qD,←hp];rfl
     exact⟨(2,some e),⟨qE,h1.symm⟩,qE,aC [0,3,4,9,10,11] [3,40000] qA qA qE⟩
  ·obtain _|e:=p
   ·simp only[Option.map_none,Option.map_some,Option.getD_none,Option.getD_some,Option.isSome_none,Option.isSome_some,Option.toList_none,Option.toList_some,Bool.or_false,Bool.or_true,List.append_nil]
    repeat' (first|refine Wd ?_|(refine Wc ?_ ?_<;>intro hb<;>try simp at hb)|refine Zw hc (hf:=qR) (hk:=?_)|refine Zq hc (hf:=qR) (hk:=?_)|refine Wo ?_|((first|refine gZ ([(100000,3),(50001,40000)]) (eO _ m _) hc qA qA qA qA qA rfl qA qA rfl qE qE qA qA qF ?_|fail)))
    ·have h1:sg r 3=some ([38,103,116,59],62):=by rw[hn qD,←hp];simp[hb]
     exact⟨(3,some ([38,103,116,59],62)),⟨qE,h1.symm⟩,qE,aC [0,3,4,9,10,11] [3,40000] qA qA qE⟩
    ·have hb':(E5[2]?.getD ([],0)).1.isPrefixOf r=false:=hb
     have h1:sg r 3=none:=by rw[hn qD,←hp,if_neg qa0];rfl
     exact⟨(3,none),⟨qE,h1.symm⟩,qE,aC [0,3,4,9,10,11] [3,40000] qA qA qE⟩
   ·have hz:=hno qD e hp.symm
    simp only[Option.map_none,Option.map_some,Option.getD_none,Option.getD_some,Option.isSome_none,Option.isSome_some,Option.toList_none,Option.toList_some,Bool.or_false,Bool.or_true,List.append_nil]
    repeat' (first|refine Wd ?_|(refine Wc ?_ ?_<;>intro hb<;>try simp at hb)|refine Zw hc (hf:=qR) (hk:=?_)|refine Zq hc (hf:=qR) (hk:=?_)|refine Wo ?_|fail)
    ·exfalso
     rw[←List.isPrefixOf_iff_prefix]at hb
     have:=hz.symm.trans hb
     cases this
    ·have h1:sg r 3=some e:=by rw[hn qD,←hp];rfl
     exact⟨(3,some e),⟨qE,h1.symm⟩,qE,aC [0,3,4,9,10,11] [3,40000] qA qA qE⟩
  ·obtain _|e:=p
   ·simp only[Option.map_none,Option.map_some,Option.getD_none,Option.getD_some,Option.isSome_none,Option.isSome_some,Option.toList_none,Option.toList_some,Bool.or_false,Bool.or_true,List.append_nil]
    repeat' (first|refine Wd ?_|(refine Wc ?_ ?_<;>intro hb<;>try simp at hb)|refine Zw hc (hf:=qR) (hk:=?_)|refine Zq hc (hf:=qR) (hk:=?_)|refine Wo ?_|((first|refine gZ ([(100000,3),(50001,40000)]) (eO _ m _) hc qA qA qA qA qA rfl qA qA rfl qE qE qA qA qF ?_|fail)))
    ·have h1:sg r 4=some ([38,113,117,111,116,59],34):=by rw[hn qD,←hp];simp[hb]
     exact⟨(4,some ([38,113,117,111,116,59],34)),⟨qE,h1.symm⟩,qE,aC [0,3,4,9,10,11] [3,40000] qA qA qE⟩
    ·have hb':(E5[3]?.getD ([],0)).1.isPrefixOf r=false:=hb
     have h1:sg r 4=none:=by rw[hn qD,←hp,if_neg qa0];rfl
     exact⟨(4,none),⟨qE,h1.symm⟩,qE,aC [0,3,4,9,10,11] [3,40000] qA qA qE⟩
   ·have hz:=hno qD e hp.symm
    simp only[Option.map_none,Option.map_some,Option.getD_none,Option.getD_some,Option.isSome_none,Option.isSome_some,Option.toList_none,Option.toList_some,Bool.or_false,Bool.or_true,List.append_nil]
    repeat' (first|refine Wd ?_|(refine Wc ?_ ?_<;>intro hb<;>try simp at hb)|refine Zw hc (hf:=qR) (hk:=?_)|refine Zq hc (hf:=qR) (hk:=?_)|refine Wo ?_|fail)
    ·exfalso
     rw[←List.isPrefixOf_iff_prefix]at hb
     have:=hz.symm.trans hb
     cases this
    ·have h1:sg r 4=some e:=by rw[hn qD,←hp];rfl
     exact⟨(4,some e),⟨qE,h1.symm⟩,qE,aC [0,3,4,9,10,11] [3,40000] qA qA qE⟩
  ·obtain _|e:=p
   ·simp only[Option.map_none,Option.map_some,Option.getD_none,Option.getD_some,Option.isSome_none,Option.isSome_some,Option.toList_none,Option.toList_some,Bool.or_false,Bool.or_true,List.append_nil]
    repeat' (first|refine Wd ?_|(refine Wc ?_ ?_<;>intro hb<;>try simp at hb)|refine Zw hc (hf:=qR) (hk:=?_)|refine Zq hc (hf:=qR) (hk:=?_)|refine Wo ?_|((first|refine gZ ([(100000,3),(50001,40000)]) (eO _ m _) hc qA qA qA qA qA rfl qA qA rfl qE qE qA qA qF ?_|fail)))
    ·have h1:sg r 5=some ([38,35,51,57,59],39):=by rw[hn qD,←hp];simp[hb]
     exact⟨(5,some ([38,35,51,57,59],39)),⟨qE,h1.symm⟩,qE,aC [0,3,4,9,10,11] [3,40000] qA qA qE⟩
    ·have hb':(E5[4]?.getD ([],0)).1.isPrefixOf r=false:=hb
     have h1:sg r 5=none:=by rw[hn qD,←hp,if_neg qa0];rfl
     exact⟨(5,none),⟨qE,h1.symm⟩,qE,aC [0,3,4,9,10,11] [3,40000] qA qA qE⟩
   ·have hz:=hno qD e hp.symm
    simp only[Option.map_none,Option.map_some,Option.getD_none,Option.getD_some,Option.isSome_none,Option.isSome_some,Option.toList_none,Option.toList_some,Bool.or_false,Bool.or_true,List.append_nil]
    repeat' (first|refine Wd ?_|(refine Wc ?_ ?_<;>intro hb<;>try simp at hb)|refine Zw hc (hf:=qR) (hk:=?_)|refine Zq hc (hf:=qR) (hk:=?_)|refine Wo ?_|fail)
    ·exfalso
     rw[←List.isPrefixOf_iff_prefix]at hb
     have:=hz.symm.trans hb
     cases this
    ·have h1:sg r 5=some e:=by rw[hn qD,←hp];rfl
     exact⟨(5,some e),⟨qE,h1.symm⟩,qE,aC [0,3,4,9,10,11] [3,40000] qA qA qE⟩
  ·obtain _|e:=p
   ·simp only[Option.map_none,Option.map_some,Option.getD_none,Option.getD_some,Option.isSome_none,Option.isSome_some,Option.toList_none,Option.toList_some,Bool.or_false,Bool.or_true,List.append_nil]
    have h0:0<r.length:=by cases r;contradiction;simp
    have hmr:iV r=r[0]?.getD 0::iV (r.drop 1):=by
     cases r with
     |nil=>contradiction
     |cons c r=>rw[iV,←hp];simp
    repeat' (first|refine Wd ?_|(refine Wc ?_ ?_<;>intro hb<;>try simp at hb)|refine Wo ?_|((first|refine gZ ([(100000,3),(50001,40000)]) (DY _ m _) hc qA qA qA qA qA rfl qA qA rfl qE qE qA qA qF ?_|fail)))
    exact⟨(r.drop 1,m++[r[0]?.getD 0],true),⟨qH,by rw[hs,hmr];simp⟩,qH,aC [0,3] [3,40000] qA qA qE⟩
   ·have hz:=hle e hp.symm
    have hmr:iV r=e.2::iV (r.drop e.1.length):=by
     cases r with
     |nil=>contradiction
     |cons c r=>
      rw[iV,←hp]
      simp only
      rw[show e.1.length=(e.1.length-1)+1 by omega,List.drop_succ_cons]
      rfl
    simp only[Option.map_none,Option.map_some,Option.getD_none,Option.getD_some,Option.isSome_none,Option.isSome_some,Option.toList_none,Option.toList_some,Bool.or_false,Bool.or_true,List.append_nil]
    repeat' (first|refine Wd ?_|(refine Wc ?_ ?_<;>intro hb<;>try simp at hb)|fail)
    ·exfalso;omega
    ·exact⟨(r.drop e.1.length,m++[e.2],true),⟨qH,by rw[hs,hmr];simp⟩,qH,aC [0,3] [3,40000] qA qA qE⟩
 (first|refine aF ([(100000,3),(50001,40000)]) (CD u m) hc qA qA qA qA qA rfl qA qA rfl qE qE qA qA ?_|fail)
 repeat' (first|refine Wd ?_|(refine Wc ?_ ?_<;>intro hb<;>try simp at hb)|fail)
 (first|refine Wo ?_|fail)
 repeat' (first|refine Wd ?_|(refine Wc ?_ ?_<;>intro hb<;>try simp at hb)|fail)
 (refine Zl hc (hr:=?_))
 rw[hs,hb]
 simp[iV]
def cN (c:UInt8):Bool:=jX c||bE c||decide (c.toNat=45)
def cA (c:UInt8):Bool:=cN c||decide (c.toNat=95)||decide (c.toNat=58)
def DZ:Bs:=[34,39,61,60,62,96]
def eP (c:UInt8):Bool:= !aY c&& !DZ.contains c
theorem lR (c:UInt8):aJ Tryz.prog 366 [u8 c] (tru (jX c)):=by
 refine aW Tryz.func366 rfl qC Tryz.ntmps366 _ rfl qE fun C hc=>?_
 repeat' (first|refine Wd ?_|(refine Wc ?_ ?_<;>intro hb<;>try simp at hb)|fail)
 (refine Zl hc (hr:=?_))
 refine bT ?_
 rw[Bool.eq_iff_iff];simp[jX,SM,Aj];omega
theorem uO (c:UInt8):aJ Tryz.prog 357 [u8 c] (tru (cN c)):=by
 refine aW Tryz.func357 rfl qC Tryz.ntmps357 _ rfl qE fun C hc=>?_
 repeat' (first|refine Wd ?_|(refine Wc ?_ ?_<;>intro hb<;>try simp at hb)|refine Zw hc (hf:=by exact lR _) (hk:=?_)|refine Zq hc (hf:=by exact lR _) (hk:=?_)|refine Wo ?_|fail)
 (refine Zl hc (hr:=?_))
 refine bT ?_
 rw[Bool.eq_iff_iff];cases h:jX c<;>simp[cN,bE,h]<;>omega
theorem LD (c:UInt8):aJ Tryz.prog 367 [u8 c] (tru (cA c)):=by
 refine aW Tryz.func367 rfl qC Tryz.ntmps367 _ rfl qE fun C hc=>?_
 repeat' (first|refine Wd ?_|(refine Wc ?_ ?_<;>intro hb<;>try simp at hb)|refine Zw hc (hf:=by exact uO _) (hk:=?_)|refine Zq hc (hf:=by exact uO _) (hk:=?_)|refine Wo ?_|fail)
 (refine Zl hc (hr:=?_))
 refine bT ?_
 rw[Bool.eq_iff_iff];cases h:cN c<;>simp[cA,h]<;>omega
theorem AQ (c:UInt8):aJ Tryz.prog 184 [u8 c] (tru (eP c)):=by
 refine aW Tryz.func184 rfl qC Tryz.ntmps184 _ rfl qE fun C hc=>?_
 repeat' (first|refine Wd ?_|(refine Wc ?_ ?_<;>intro hb<;>try simp at hb)|refine Zw hc (hf:=by first|exact cU _|exact bZ DZ _) (hk:=?_)|refine Zq hc (hf:=by first|exact cU _|exact bZ DZ _) (hk:=?_)|refine Wo ?_|fail)
 (refine Zl hc (hr:=?_))
 refine bT ?_
 have:=rD DZ c
 rw[Bool.eq_iff_iff];cases h:aY c<;>simp[eP,h,this]
abbrev scn (l:Bs) (i:Int):List (Nat×O):=[(100000,.box 274 [.d (str l),.d (int i)])]
abbrev Rk (l:Bs) (i:Int):D:= .ip [str l,int i] 0
theorem gF (l p:Bs) (i:Nat) (hi:i≤l.length) (hm:l.length≤200000):aJ Tryz.prog 245 [Rk l i,str p] (tru (p.isPrefixOf (l.drop i))):=by
 refine aW Tryz.func245 rfl qC Tryz.ntmps245 _ rfl qE fun C hc=>?_
 repeat' (first|refine Wd ?_|(refine Wc ?_ ?_<;>intro hb<;>try simp at hb)|refine Zw hc (hf:=qR) (hk:=?_)|refine Zq hc (hf:=qR) (hk:=?_)|refine Wo ?_|fail)
 (refine Zl hc (hr:=?_))
 simp
abbrev fv (f:FuncId):V:= .d (.lit (.func (.func f) #[] #[]))
theorem iQ (p:UInt8→Bool) (f:FuncId) (hf: ∀c,aJ Tryz.prog f [u8 c] (tru (p c))) (l:Bs) (i:Nat) (hi:i≤l.length) (hm:l.length≤200000):
 bJ Tryz.prog 241 [.bp 100000 0,fv f] (scn l i) (.d (int ((skip p l i:Int)-i))) (scn l (skip p l i)):=by
 refine cY Tryz.func241 rfl qC Tryz.ntmps241 _ rfl qE fun C hc=>?_
 repeat' (first|refine Wd ?_|(refine Wc ?_ ?_<;>intro hb<;>try simp at hb)|fail)
 refine aN (fun j:Nat=>⟨[(0,.bp 100000 0),(1,fv f),(5,.d (int i))],scn l j⟩) (fun j=>i≤j∧j≤l.length∧skip p l j=skip p l i) (fun j=>l.length-j) i qH (aG [0,1,5] [100000] qA qA) ?_
 rintro j ⟨h1,h2,h3⟩
 have hs:=fun h=>rC p l j h
 have he:=fun h=>Ak p l j h
 repeat' (first|refine Wd ?_|(refine Wc ?_ ?_<;>intro hb<;>try simp at hb)|refine Zw hc (hf:=by exact hf _) (hk:=?_)|refine Zq hc (hf:=by exact hf _) (hk:=?_)|refine Wo ?_|fail)
 ·refine⟨j+1,⟨qD,qD,?_⟩,qD,aC [0,1,5] [100000] qA qA qE⟩
  rw[←h3,hs hb.1,if_pos hb.2]
 ·have e:skip p l i=j:=by
   rw[←h3]
   by_cases hj:j<l.length
   ·rw[hs hj,if_neg (by rw[hb hj];decide)]
   ·exact he qD
  rw[e]
  (refine aE [100000] hc (aR rfl) qA qA qJ ?_)
  simp
def nm (p:UInt8→Bool) (l:Bs) (i:Nat):Nat:=if i<l.length∧jX (l[i]?.getD 0)=true then skip p l i else i
theorem x6 (p:UInt8→Bool) (l:Bs) (i:Nat):i≤nm p l i:=by unfold nm;have:=bO p l i;split<;>omega
theorem x7 (p:UInt8→Bool) (l:Bs) (i:Nat) (h:i≤l.length):nm p l i≤l.length:=by unfold nm;have:=cI p l i h;split<;>omega
theorem D3 (p:UInt8→Bool) (f:FuncId) (hf: ∀c,aJ Tryz.prog f [u8 c] (tru (p c))) (l:Bs) (i:Nat) (hi:i≤l.length) (hm:l.length≤200000):
 bJ Tryz.prog 356 [.bp 100000 0,fv f] (scn l i) (.d (str ((l.take (nm p l i)).drop i))) (scn l (nm p l i)):=by
 refine cY Tryz.func356 rfl qC Tryz.ntmps356 _ rfl qE fun C hc=>?_
 have h1:=bO p l i
 have h2:=cI p l i hi
 repeat' (first|refine Wd ?_|(refine Wc ?_ ?_<;>intro hb<;>try simp at hb)|refine Zw hc (hf:=by exact lR _) (hk:=?_)|refine Zq hc (hf:=by exact lR _) (hk:=?_)|refine Wo ?_|fail)
 ·rw[show nm p l i=skip p l i by unfold nm;rw[if_pos hb]]
  repeat' (first|refine Wd ?_|(refine Wc ?_ ?_<;>intro hb<;>try simp at hb)|refine Wo ?_|refine aF ([(100000,100000)]) (iQ p f hf l i hi hm) hc qA qA qA qA qA rfl qA qA rfl qE qE qA qA ?_|fail)
  (refine aE [100000] hc (aR rfl) qA qA qJ ?_)
  all_goals simp
 ·have e:nm p l i=i:=by unfold nm;rw[if_neg Qm]
  rw[e]
  repeat' (first|refine Wd ?_|(refine Wc ?_ ?_<;>intro hb<;>try simp at hb)|fail)
  (refine aE [100000] hc (aR rfl) qA qA qJ ?_)
  all_goals simp
theorem G9 (s p:Bs) (hs:s.length<4294967281):aJ Tryz.prog 188 [str s,str p] (int (Lib.index s p)):=
 dL [.string (bs s),.string (bs p)] qC fun w hw=>by
  obtain⟨m,hm⟩:=hw.2.1 0 3 .i64 qC qC
  have h:=Tryz.strings_Index (bs s) (bs p) m w Qx hm
  simpa using h
def cmt (l:Bs) (i:Nat):Option Nat:=if[60,33,45,45].isPrefixOf (l.drop i)=true∧0≤Lib.index (l.drop (i+4)) [45,45,62]then some (i+7+(Lib.index (l.drop (i+4)) [45,45,62]).toNat)else none
theorem uP {p l:Bs} {i:Nat} (hi:i≤l.length) (h:p.isPrefixOf (l.drop i)=true):i+p.length≤l.length:=by
 have:=(List.isPrefixOf_iff_prefix.1 h).length_le
 simp at this
 omega
theorem Th {l:Bs} {i j:Nat} (hi:i≤l.length) (h:cmt l i=some j):i<j∧j≤l.length:=by
 unfold cmt at h
 split at h
 ·rename_i h1
  obtain rfl:=Option.some.inj h
  have:=uP hi h1.1
  have:=Lib.index_room (l.drop (i+4)) [45,45,62] h1.2
  simp at this
  omega
 ·cases h
theorem I0 (l:Bs) (i:Nat) (hi:i≤l.length) (hm:l.length≤200000):
 bJ Tryz.prog 321 [.bp 100000 0] (scn l i) (.d (tru (cmt l i).isSome)) (scn l ((cmt l i).getD i:Nat)):=by
 refine cY Tryz.func321 rfl qC Tryz.ntmps321 _ rfl qE fun C hc=>?_
 have hg:=Lib.index_ge (l.drop (i+4)) [45,45,62]
 have hr:=Lib.index_room (l.drop (i+4)) [45,45,62]
 by_cases h1:[60,33,45,45].isPrefixOf (l.drop i)=true
 ·have hl:=uP hi h1
  simp only[List.length_drop,List.length_cons,List.length_nil]at hr hl
  have hx:=G9 (l.drop (i+4)) [45,45,62] qH
  have hh:=gF l [60,33,45,45] i hi hm
  rw[h1]at hh
  repeat' (first|refine Wd ?_|(refine Wc ?_ ?_<;>intro hb<;>try simp at hb)|refine Zw hc (hf:=by first|exact hh|exact hx) (hk:=?_)|refine Zq hc (hf:=by first|exact hh|exact hx) (hk:=?_)|refine Wo ?_|fail)
  ·have e:cmt l i=none:=by unfold cmt;rw[if_neg (fun h=>by omega)]
   rw[e]
   (refine aE [100000] hc (aR rfl) qA qA qJ ?_)
   simp
  ·have e:cmt l i=some (i+7+(Lib.index (l.drop (i+4)) [45,45,62]).toNat):=by unfold cmt;rw[if_pos ⟨h1,hb⟩]
   rw[e]
   (refine aE [100000] hc (aR rfl) qA qA qJ ?_)
   simp;omega
 ·have hh:=gF l [60,33,45,45] i hi hm
  have e:cmt l i=none:=by unfold cmt;rw[if_neg (fun h=>h1 h.1)]
  rw[Bool.eq_false_iff.2 h1]at hh
  rw[e]
  repeat' (first|refine Wd ?_|(refine Wc ?_ ?_<;>intro hb<;>try simp at hb)|refine Zw hc (hf:=qaU) (hk:=?_)|refine Zq hc (hf:=qaU) (hk:=?_)|refine Wo ?_|fail)
  all_goals try contradiction
  (refine aE [100000] hc (aR rfl) qA qA qJ ?_)
  simp
theorem iR (c:UInt8) (l:Bs) (i:Nat):[c].isPrefixOf (l.drop i)=decide (l[i]?=some c):=by
 by_cases h:i<l.length
 ·rw[List.drop_eq_getElem_cons h]
  show(c==l[i]&&true)=_
  rw[Bool.and_true,Bool.eq_iff_iff,beq_iff_eq,decide_eq_true_eq,List.getElem?_eq_getElem h,Option.some.injEq,eq_comm]
 ·rw[List.drop_of_length_le qD,List.getElem?_eq_none qD]
  rfl
def shut (l:Bs) (i:Nat):Option (Bs×Nat)×Nat:=
 if[60,47].isPrefixOf (l.drop i)=true then
  if nm cN l (i+2)≠i+2∧l[skip aY l (nm cN l (i+2))]?=some 62 then(some (small ((l.take (nm cN l (i+2))).drop (i+2)),skip aY l (nm cN l (i+2))+1),skip aY l (nm cN l (i+2))+1)
  else(none,skip aY l (nm cN l (i+2)))
 else(none,i)
@[simp] def J6:Option (Bs×Nat)→D
  |some r=> .tup [str r.1,tru true]
  |none=> .tup [str [],tru false]
theorem NU (l:Bs) (i:Nat) (hi:i≤l.length) (hm:l.length≤200000):
 bJ Tryz.prog 322 [.bp 100000 0] (scn l i) (.d (J6 (shut l i).1)) (scn l (shut l i).2):=by
 refine cY Tryz.func322 rfl qC Tryz.ntmps322 _ rfl qE fun C hc=>?_
 have hh:=gF l [60,47] i hi hm
 by_cases h1:[60,47].isPrefixOf (l.drop i)=true
 ·have hl:=uP hi h1
  simp only[List.length_cons,List.length_nil]at hl
  unfold shut
  rw[if_pos h1]
  rw[h1]at hh
  have h2:=x6 cN l (i+2)
  have h3:=x7 cN l (i+2) qD
  have hn:=D3 cN _ uO l (i+2) qD hm
  generalize nm cN l (i+2)=e at h2 h3 hn⊢
  have h4:=bO aY l e
  have h5:=cI aY l e h3
  have hs:=iQ aY _ cU l e h3 hm
  generalize skip aY l e=b at h4 h5 hs⊢
  have hg:=gF l [62] b h5 hm
  rw[iR]at hg
  have hsm:=bP ((l.take e).drop (i+2)) qH
  repeat' (first|refine Wd ?_|(refine Wc ?_ ?_<;>intro hb<;>try simp at hb)|refine Zw hc (hf:=by first|exact hh|exact hg|exact hsm) (hk:=?_)|refine Zq hc (hf:=by first|exact hh|exact hg|exact hsm) (hk:=?_)|refine Wn ?_|refine aF ([(100000,100000)]) (hn) hc qA qA qA qA qA rfl qA qA rfl qE qE qA qA ?_|refine aF ([(100000,100000)]) (hs) hc qA qA qA qA qA rfl qA qA rfl qE qE qA qA ?_|fail)
  ·have hn: ¬(e≠i+2∧l[b]?=some 62):=by
    rintro⟨h6,h7⟩
    rcases hb with hb|hb
    ·omega
    ·exact hb h7
   rw[if_neg hn]
   (refine aE [100000] hc (aR rfl) qA qA qJ ?_)
   (first|(simp;done)|(simp;omega))
  ·rw[if_pos ⟨qD,hb.2⟩]
   (refine aE [100000] hc (aR rfl) qA qA qJ ?_)
   (first|(simp;done)|(simp;omega))
 ·unfold shut
  rw[if_neg h1]
  rw[Bool.eq_false_iff.2 h1]at hh
  repeat' (first|refine Wd ?_|(refine Wc ?_ ?_<;>intro hb<;>try simp at hb)|refine Zw hc (hf:=qaU) (hk:=?_)|refine Zq hc (hf:=qaU) (hk:=?_)|refine Wn ?_|fail)
  all_goals try contradiction
  (refine aE [100000] hc (aR rfl) qA qA qJ ?_)
  simp
theorem uQ (l:Bs) (c:UInt8):Lib.indexByte l c<l.length∨Lib.indexByte l c= -1:=by
 induction l with
 |nil=>right;rfl
 |cons b l ih=>
  simp only[Lib.indexByte,List.length_cons]
  split
  ·left;omega
  ·split
   ·right;rfl
   ·rename_i h
    simp at h
    left;omega
def val (l:Bs) (i:Nat):(Nat×Nat)×Bool×Nat:=
 if l[i]?=some 34∨l[i]?=some 39 then
  if Lib.indexByte (l.drop (i+1)) (l[i]?.getD 0)<0 then((0,0),false,i)
  else((i+1,i+1+(Lib.indexByte (l.drop (i+1)) (l[i]?.getD 0)).toNat),true,i+2+(Lib.indexByte (l.drop (i+1)) (l[i]?.getD 0)).toNat)
 else if i<skip eP l i∧l[skip eP l i-1]?=some 47∧l[skip eP l i]?=some 62 then((i,skip eP l i-1),decide (i<skip eP l i-1),skip eP l i-1)
 else((i,skip eP l i),decide (i<skip eP l i),skip eP l i)
theorem I1 (l:Bs) (i:Nat) (hi:i≤l.length) (hm:l.length≤200000):
 bJ Tryz.prog 368 [.bp 100000 0] (scn l i) (.d (.tup [.agg [int (val l i).1.1,int (val l i).1.2],tru (val l i).2.1])) (scn l (val l i).2.2):=by
 refine cY Tryz.func368 rfl qC Tryz.ntmps368 _ rfl qE fun C hc=>?_
 have hq:=gF l [34] i hi hm
 have hs:=gF l [39] i hi hm
 rw[iR]at hq hs
 repeat' (first|refine Wd ?_|(refine Wc ?_ ?_<;>intro hb<;>try simp at hb)|refine Zw hc (hf:=QG) (hk:=?_)|refine Zq hc (hf:=QG) (hk:=?_)|refine Wn ?_|fail)
 ·have hlt:i<l.length:=by rcases hb with h|h<;>exact(List.getElem?_eq_some_iff.1 h).1
  unfold val
  rw[if_pos hb]
  have hx:=bZ (l.drop (i+1)) (l[i]?.getD 0)
  have hge:=Lib.indexByte_ge (l.drop (i+1)) (l[i]?.getD 0)
  have hlt2:=uQ (l.drop (i+1)) (l[i]?.getD 0)
  simp only[List.length_drop]at hlt2
  generalize Lib.indexByte (l.drop (i+1)) (l[i]?.getD 0)=k at hx hge hlt2⊢
  repeat' (first|refine Wd ?_|(refine Wc ?_ ?_<;>intro hb<;>try simp at hb)|refine Zw hc (hf:=by exact hx) (hk:=?_)|refine Zq hc (hf:=by exact hx) (hk:=?_)|refine Wn ?_|fail)
  ·rw[if_pos hb]
   (refine aE [100000] hc (aR rfl) qA qA qJ ?_)
   (first|(simp;done)|(simp;omega))
  ·rw[if_neg qD]
   (apply Xd 15 hc;(focus(refine Xm 0 hc (hk:=?_);refine Xp 1 hc (hk:=?_);refine Xp 2 hc (hk:=?_);refine Xm 5 hc (hk:=?_);refine Xp 6 hc (hk:=?_);refine Xp 7 hc (hk:=?_);refine Xm 10 hc (hk:=?_);refine Xa [3,8,13] (hx:=?_);refine⟨?_,?_,?_⟩;(focus(refine Xw hc (hk:=?_);refine Xp 4 hc (hk:=?_);refine Xa [8,13] (hx:=?_);refine⟨?_,?_⟩;(focus(refine Xw hc (hk:=?_);refine Xp 9 hc (hk:=?_);refine Xp 11 hc (hk:=?_);refine Xp 12 hc (hk:=?_);refine Xa [13] (hx:=?_);(focus(refine Xw hc (hk:=?_);refine Xa [14] (hx:=?_);(focus(refine Xw hc (hk:=?_);refine Xz (hk:=?_);exact Xk [0,2,3,4,5,6] [100000,2,6]))))));(focus(refine Xw hc (hk:=?_);refine aI 8 [8,9,11,12,14] hc rfl qC rfl qA qF qE qA ?_;refine Xp 9 hc (hk:=?_);refine Xp 11 hc (hk:=?_);refine Xp 12 hc (hk:=?_);refine Xa [14] (hx:=?_);(focus(refine Xw hc (hk:=?_);refine Xz (hk:=?_);exact Xb [0,2,3,4,5,6] [100000,2,6]))))));(focus(refine Xw hc (hk:=?_);refine Xp 9 hc (hk:=?_);refine Xp 11 hc (hk:=?_);refine Xa [3,13] (hx:=?_);refine⟨?_,?_⟩;(focus(refine Xw hc (hk:=?_);refine Xp 4 hc (hk:=?_);refine Xp 12 hc (hk:=?_);refine Xa [13] (hx:=?_);(focus(refine Xw hc (hk:=?_);refine Xa [14] (hx:=?_);(focus(refine Xw hc (hk:=?_);refine Xz (hk:=?_);exact Xb [0,2,3,4,5,6] [100000,2,6]))))));(focus(refine Xw hc (hk:=?_);refine aI 3 [3,4,12,14] hc rfl qC rfl qA qF qE qA ?_;refine Xp 4 hc (hk:=?_);refine Xp 12 hc (hk:=?_);refine Xa [14] (hx:=?_);(focus(refine Xw hc (hk:=?_);refine Xz (hk:=?_);exact Xb [0,2,3,4,5,6] [100000,2,6]))))));(focus(refine Xw hc (hk:=?_);refine Xa [3,8] (hx:=?_);refine⟨?_,?_⟩;(focus(refine Xw hc (hk:=?_);refine Xp 4 hc (hk:=?_);refine aI 8 [8,9,11,12,14] hc rfl qC rfl qA qF qE qA ?_;refine Xp 9 hc (hk:=?_);refine Xp 11 hc (hk:=?_);refine Xp 12 hc (hk:=?_);refine Xa [14] (hx:=?_);(focus(refine Xw hc (hk:=?_);refine Xz (hk:=?_);exact Xb [0,2,3,4,5,6] [100000,2,6]))));(focus(refine Xw hc (hk:=?_);refine Xp 9 hc (hk:=?_);refine Xp 11 hc (hk:=?_);refine aI 3 [3,4,12,14] hc rfl qC rfl qA qF qE qA ?_;refine Xp 4 hc (hk:=?_);refine Xp 12 hc (hk:=?_);refine Xa [14] (hx:=?_);(focus(refine Xw hc (hk:=?_);refine Xz (hk:=?_);exact Xb [0,2,3,4,5,6] [100000,2,6])))))))))
   repeat' (first|refine Wd ?_|(refine Wc ?_ ?_<;>intro hb<;>try simp at hb)|fail)
   (refine aE [100000] hc (aR rfl) qA qA qJ ?_)
   (first|(simp;done)|(simp;omega))
 ·unfold val
  rw[if_neg Qm]
  have h1:=bO eP l i
  have h2:=cI eP l i hi
  have hv:=iQ eP _ AQ l i hi hm
  generalize skip eP l i=e at h1 h2 hv⊢
  have hg:=gF l [62] e h2 hm
  rw[iR]at hg
  repeat' (first|refine Wd ?_|(refine Wc ?_ ?_<;>intro hb<;>try simp at hb)|refine Zw hc (hf:=by exact hg) (hk:=?_)|refine Zq hc (hf:=by exact hg) (hk:=?_)|refine Wn ?_|refine aF ([(100000,100000)]) (hv) hc qA qA qA qA qA rfl qA qA rfl qE qE qA qA ?_|fail)
  ·have e1:l[e-1]?=some 47:=by
    rw[List.getElem?_eq_getElem (show e-1<l.length by omega)]at hb⊢
    have:=hb.1.2
    simp only[Option.getD_some]at this
    exact congrArg some (UInt8.toNat_inj.1 qH)
   rw[if_pos ⟨hb.1.1,e1,hb.2⟩]
   (apply Xd 14 hc;(focus(refine Xm 0 hc (hk:=?_);refine Xm 1 hc (hk:=?_);refine Xp 2 hc (hk:=?_);refine Xp 3 hc (hk:=?_);refine Xm 6 hc (hk:=?_);refine Xp 7 hc (hk:=?_);refine Xp 8 hc (hk:=?_);refine Xm 10 hc (hk:=?_);refine Xa [4,9] (hx:=?_);refine⟨?_,?_⟩;(focus(refine Xw hc (hk:=?_);refine Xp 5 hc (hk:=?_);refine Xa [9,12] (hx:=?_);refine⟨?_,?_⟩;(focus(refine Xw hc (hk:=?_);refine Xp 11 hc (hk:=?_);refine Xa [12] (hx:=?_);(focus(refine Xw hc (hk:=?_);refine Xm 13 hc (hk:=?_);refine Xz (hk:=?_);exact Xk [0,2,3] [100000,2]))));(focus(refine Xw hc (hk:=?_);refine aI 9 [9,11,13] hc rfl qC rfl qA qF qE qA ?_;refine Xp 11 hc (hk:=?_);refine Xm 13 hc (hk:=?_);refine Xz (hk:=?_);exact Xb [0,2,3] [100000,2]))));(focus(refine Xw hc (hk:=?_);refine Xp 11 hc (hk:=?_);refine aI 4 [4,5,12,13] hc rfl qC rfl qA qF qE qA ?_;refine Xp 5 hc (hk:=?_);refine Xa [12] (hx:=?_);(focus(refine Xw hc (hk:=?_);refine Xm 13 hc (hk:=?_);refine Xz (hk:=?_);exact Xb [0,2,3] [100000,2])))))))
   repeat' (first|refine Wd ?_|(refine Wc ?_ ?_<;>intro hb<;>try simp at hb)|fail)
   (refine aE [100000] hc (aR rfl) qA qA qJ ?_)
   (first|(simp;done)|(simp;omega))
  ·rw[if_neg (fun hx=>hb hx.1 (by rw[hx.2.1];rfl) hx.2.2)]
   (apply Xd 14 hc;(focus(refine Xm 0 hc (hk:=?_);refine Xm 1 hc (hk:=?_);refine Xp 2 hc (hk:=?_);refine Xp 3 hc (hk:=?_);refine Xm 6 hc (hk:=?_);refine Xp 7 hc (hk:=?_);refine Xp 8 hc (hk:=?_);refine Xm 10 hc (hk:=?_);refine Xa [4,9] (hx:=?_);refine⟨?_,?_⟩;(focus(refine Xw hc (hk:=?_);refine Xp 5 hc (hk:=?_);refine Xa [9,12] (hx:=?_);refine⟨?_,?_⟩;(focus(refine Xw hc (hk:=?_);refine Xp 11 hc (hk:=?_);refine Xa [12] (hx:=?_);(focus(refine Xw hc (hk:=?_);refine Xm 13 hc (hk:=?_);refine Xz (hk:=?_);exact Xk [0,2,3] [100000,2]))));(focus(refine Xw hc (hk:=?_);refine aI 9 [9,11,13] hc rfl qC rfl qA qF qE qA ?_;refine Xp 11 hc (hk:=?_);refine Xm 13 hc (hk:=?_);refine Xz (hk:=?_);exact Xb [0,2,3] [100000,2]))));(focus(refine Xw hc (hk:=?_);refine Xp 11 hc (hk:=?_);refine aI 4 [4,5,12,13] hc rfl qC rfl qA qF qE qA ?_;refine Xp 5 hc (hk:=?_);refine Xa [12] (hx:=?_);(focus(refine Xw hc (hk:=?_);refine Xm 13 hc (hk:=?_);refine Xz (hk:=?_);exact Xb [0,2,3] [100000,2])))))))
   repeat' (first|refine Wd ?_|(refine Wc ?_ ?_<;>intro hb<;>try simp at hb)|fail)
   (refine aE [100000] hc (aR rfl) qA qA qJ ?_)
   (first|(simp;done)|(simp;omega))
structure Atr where
 name:Bs
 val:Bs
 fr:Nat
 til:Nat
 has:Bool
abbrev Atr.none:Atr:=⟨[],[],0,0,false⟩
abbrev rP (a:Atr):List D:=[str a.name,str a.val,int a.fr,int a.til,tru a.has]
def att (l:Bs) (i:Nat):Atr×Bool×Nat:=
 if skip aY l i=i then(.none,false,i)
 else if nm cA l (skip aY l i)=skip aY l i then(.none,false,skip aY l i)
 else if l[nm cA l (skip aY l i)]?=some 61 then
  if(val l (nm cA l (skip aY l i)+1)).2.1=true then
   (⟨small ((l.take (nm cA l (skip aY l i))).drop (skip aY l i)),iV ((l.take (val l (nm cA l (skip aY l i)+1)).1.2).drop (val l (nm cA l (skip aY l i)+1)).1.1),(val l (nm cA l (skip aY l i)+1)).1.1,(val l (nm cA l (skip aY l i)+1)).1.2,true⟩,true,(val l (nm cA l (skip aY l i)+1)).2.2)
  else(⟨small ((l.take (nm cA l (skip aY l i))).drop (skip aY l i)),[],(val l (nm cA l (skip aY l i)+1)).1.1,(val l (nm cA l (skip aY l i)+1)).1.2,false⟩,false,(val l (nm cA l (skip aY l i)+1)).2.2)
 else(⟨small ((l.take (nm cA l (skip aY l i))).drop (skip aY l i)),[],nm cA l (skip aY l i),nm cA l (skip aY l i),false⟩,true,nm cA l (skip aY l i))
theorem I2 (l:Bs) (i:Nat) (hi:i≤l.length):(val l i).2.2≤l.length∧i≤(val l i).2.2∧((val l i).2.1=true→i≤(val l i).1.1∧(val l i).1.1≤(val l i).1.2∧(val l i).1.2≤(val l i).2.2):=by
 have h1:=bO eP l i
 have h2:=cI eP l i hi
 have h3:=uQ (l.drop (i+1)) (l[i]?.getD 0)
 simp only[List.length_drop]at h3
 unfold val
 split
 ·rename_i h
  have:i<l.length:=by rcases h with h|h<;>exact(List.getElem?_eq_some_iff.1 h).1
  split
  ·simp;omega
  ·simp;omega
 ·split<;>simp<;>omega
@[simp] theorem Uc (l:Bs):(small l).length=l.length:=by simp[small]
@[simp] theorem Ud (l:Bs):(small l).isEmpty=l.isEmpty:=by cases l<;>rfl
@[simp] theorem Ue (l:Bs):small l=[]↔l=[]:=by cases l<;>simp[small]
theorem D5 (l:Bs) (i:Nat) (hi:i≤l.length) (hm:l.length≤200000):
 bJ Tryz.prog 358 [.bp 100000 0] (scn l i) (.d (.tup [.agg (rP (att l i).1),tru (att l i).2.1])) (scn l (att l i).2.2):=by
 refine cY Tryz.func358 rfl qC Tryz.ntmps358 _ rfl qE fun C hc=>?_
 have h1:=bO aY l i
 have h2:=cI aY l i hi
 have hs:=iQ aY _ cU l i hi hm
 unfold att
 generalize skip aY l i=b at h1 h2 hs⊢
 have h3:=x6 cA l b
 have h4:=x7 cA l b h2
 have hn:=D3 cA _ LD l b h2 hm
 generalize nm cA l b=e at h3 h4 hn⊢
 have hsm:=bP ((l.take e).drop b) qH
 have hq:=gF l [61] e h4 hm
 rw[iR]at hq
 repeat' (first|refine Wd ?_|(refine Wc ?_ ?_<;>intro hb<;>try simp at hb)|refine Zw hc (hf:=by first|exact hq|exact hsm) (hk:=?_)|refine Zq hc (hf:=by first|exact hq|exact hsm) (hk:=?_)|refine Wn ?_|refine aF ([(100000,100000)]) (hs) hc qA qA qA qA qA rfl qA qA rfl qE qE qA qA ?_|refine aF ([(100000,100000)]) (hn) hc qA qA qA qA qA rfl qA qA rfl qE qE qA qA ?_|fail)
 ·rw[if_pos qD]
  (refine aE [100000] hc (aR rfl) qA qA qJ ?_)
  (first|(simp;done)|(simp;omega))
 ·rw[if_neg qD,if_pos qD]
  (refine aE [100000] hc (aR rfl) qA qA qJ ?_)
  (first|(simp;done)|(simp;omega))
 ·rw[if_neg qD,if_neg qD]
  (refine dC 10 hc qC qC ?_;try simp only[List.take_succ_cons,List.take_zero,List.drop_succ_cons,List.drop_zero])
  repeat' (first|refine Wd ?_|(refine Wc ?_ ?_<;>intro hb<;>try simp at hb)|refine Zw hc (hf:=by exact hq) (hk:=?_)|refine Zq hc (hf:=by exact hq) (hk:=?_)|refine Wn ?_|fail)
  ·have hlt:e<l.length:=(List.getElem?_eq_some_iff.1 hb).1
   rw[if_pos hb]
   have hv:=I1 l (e+1) qD hm
   have hle:=I2 l (e+1) qD
   generalize val l (e+1)=v at hv hle⊢
   obtain⟨⟨f,t⟩,o,q⟩:=v
   simp only at hv hle⊢
   repeat' (first|refine Wd ?_|(refine Wc ?_ ?_<;>intro hb<;>try simp at hb)|refine Wn ?_|refine aF ([(100000,100000)]) (hv) hc qA qA qA qA qA rfl qA qA rfl qE qE qA qA ?_|fail)
   ·rw[if_neg (by simp[hb])]
    (refine aE [100000] hc (aR rfl) qA qA qJ ?_)
    (first|(simp;done)|(simp;omega))
   ·obtain⟨h5,h6,h7⟩:=hle.2.2 hb
    have h8:=hle.1
    have hmt:=LC ((l.take t).drop f) qH
    rw[if_pos hb]
    (refine dC 13 hc qC qC ?_;try simp only[List.take_succ_cons,List.take_zero,List.drop_succ_cons,List.drop_zero])
    repeat' (first|refine Wd ?_|(refine Wc ?_ ?_<;>intro hb<;>try simp at hb)|refine Zw hc (hf:=by exact hmt) (hk:=?_)|refine Zq hc (hf:=by exact hmt) (hk:=?_)|refine Wn ?_|fail)
    (refine aE [100000] hc (aR rfl) qA qA qJ ?_)
    (first|(simp;done)|(simp;omega))
  ·rw[if_neg hb]
   (refine aE [100000] hc (aR rfl) qA qA qJ ?_)
   (first|(simp;done)|(simp;omega))
end Go.Proofs.YtdjfgcjlnfnfhaaGreatDoor
