/- TopEmbargoEnds: the tied card. -/
import Derived.Test.YtdjfgcjlnfnfhaaGreatDoorLwCard
import Derived.Test.YtdjfgcjlnfnfhaaGreatDoorCards
import Derived.Test.YtdjfgcjlnfnfhaaGreatDoorTie
import Derived.Stop.LaidErr
import Derived.Lib.LaidTab
set_option linter.unusedSimpArgs false
set_option linter.unusedVariables false
namespace Go.Proofs.YtdjfgcjlnfnfhaaGreatDoor
open Go.Lw Go.RowKit Go.ChangeShapes Go.WideShapes Go.ChangeAt
set_option maxRecDepth 100000
set_option maxHeartbeats 1000000
theorem OQ {W:World} (h:laidMetH Tryz.prog Rows.topEmbargoEndsRow.laid W):HI Tryz.prog W:=by
 rw[MakeChecks.laidMetH_plain _ _ _ qC]at h
 refine⟨fun g _ hg=>?_,fun g _ hg=>?_⟩
 ·have hg2:Tryz.prog.globalNamed "strconv.ErrSyntax" =some 1:=by kernel_rfl
  obtain rfl:=Option.some.inj (hg2.symm.trans hg)
  exact HH h.tail.tail.tail.tail.tail hg2 (ti:=264) qC Tryz.underlying264
 ·have hg2:Tryz.prog.globalNamed "internal/strconv.uint64pow10" =some 5:=by kernel_rfl
  obtain rfl:=Option.some.inj (hg2.symm.trans hg)
  have h3:Lib.TabIs Tryz.prog W "internal/strconv.uint64pow10" .u64 Lib.pow10Tab:=Lib.tabIs_of_head (n:=20) hg2 (t:=448) (e:=353) qC Tryz.underlying448 Tryz.underlying353 qC qC h.tail.tail
  unfold Lib.TabIs World.var? at h3
  rw[hg2]at h3
  simp only[Option.bind_some]at h3
  split at h3
  ·rename_i cs t fr hh
   cases h3
   exact⟨t,fr,hh⟩
  ·cases h3
theorem pV (os:Os) (started:os.Started) (H:Type) (enc:TypeId×Value→H):
 ReturnsInHanded {} Tryz.checked os 3 .any (fun w args=>(Rows.topEmbargoEndsSpec.pre enc Tryz.prog Tryz.f3 Rows.topEmbargoEndsRow.domain false w args∧laidMetH Tryz.prog Rows.topEmbargoEndsRow.laid w)∧sizedMet enc Tryz.prog Tryz.f3 (OpenSpec.ofChange Rows.topEmbargoEndsSpec) false w args)
  (Rows.topEmbargoEndsSpec.post enc Tryz.prog Tryz.f3 false true false false):=by
 refine vD (C:=Tryz.checked) (X:=fun w _=>laidMetH Tryz.prog Rows.topEmbargoEndsRow.laid w) (fun _ _ _ hh h=>h.of_heap hh) own started qC Tryz.func3
  (ChangeSpec.witness_shaped (enc:=enc) (C:=Tryz.checked) (os:=os) (X:=fun w _=>laidMetH Tryz.prog Rows.topEmbargoEndsRow.laid w) false (World.laidAll Tryz.prog os Rows.topEmbargoEndsRow.laid) #[.agg #[.slice none 0 0,.slice none 0 0,.slice none 0 0],.string .empty,.int .i64 0,.int .i64 0,.int .i64 0,.int .i64 0] 8 (World.laidAll_os _ _ _)
    (World.shaped_of_ZipB qC qC) qC qC qC
    (by rw[MakeChecks.laidMetH_plain _ _ _ qC];exact laidMet_laidAll _ qC qC)) ?_
 intro W base args ds gs before hval0 hW hwt hlaid hsh
 have hval: ∀(j:Nat) t v,Tryz.f3.params[j]?=some t→args[j]?=some v→Value.okWide Tryz.prog W .any base t v:=hval0
 have hW':=hW
 obtain⟨p,q,hA0,_,_,_,_⟩:=hW
 have hA:DataW.TrodAll enc Tryz.prog W 0 (fun _=>true) true Tryz.f3.params.toList args.toList ds p:=hA0
 rw[Tryz.params3]at hA hval hwt
 obtain⟨v0,_,d0,_,p0,_,hargs,rfl,_,h0,r0⟩:=trodAll_cons hA
 obtain⟨v1,_,d1,_,p1,_,rfl,rfl,_,h1,r1⟩:=trodAll_cons r0
 obtain⟨v2,_,d2,_,p2,_,rfl,rfl,_,h2,r2⟩:=trodAll_cons r1
 obtain⟨v3,_,d3,_,p3,_,rfl,rfl,_,h3,r3⟩:=trodAll_cons r2
 obtain⟨v4,_,d4,_,p4,_,rfl,rfl,_,h4,r4⟩:=trodAll_cons r3
 obtain⟨v5,_,d5,_,p5,_,rfl,rfl,_,h5,r5⟩:=trodAll_cons r4
 obtain⟨rfl,rfl,_⟩:=trodAll_nil r5
 obtain rfl:args= #[v0,v1,v2,v3,v4,v5]:=by cases args;simp_all
 obtain⟨a0,c0,e0⟩:=OP H enc W base v0 d0 p0 (hval 0 _ v0 rfl rfl) h0 (wH hwt (j:=0) rfl rfl)
 obtain⟨a1,c1,e1⟩:=S7 H enc W base v1 d1 p1 (hval 1 _ v1 rfl rfl) h1 (wH hwt (j:=1) rfl rfl)
 obtain⟨a2,c2,e2⟩:=EB H enc W base v2 d2 p2 (hval 2 _ v2 rfl rfl) h2 (wH hwt (j:=2) rfl rfl)
 obtain⟨a3,c3,e3⟩:=EB H enc W base v3 d3 p3 (hval 3 _ v3 rfl rfl) h3 (wH hwt (j:=3) rfl rfl)
 obtain⟨a4,c4,e4⟩:=EB H enc W base v4 d4 p4 (hval 4 _ v4 rfl rfl) h4 (wH hwt (j:=4) rfl rfl)
 obtain⟨a5,c5,e5⟩:=EB H enc W base v5 d5 p5 (hval 5 _ v5 rfl rfl) h5 (wH hwt (j:=5) rfl rfl)
 exact DP laidOut (of_decide_eq_true qC) rfl Tryz.underlying4 rfl (fun ds hd=>by
  match ds,hd with
  |[_,_,_,_,_,_],_=>rfl) hW' (BK qC hsh (OQ hlaid)) (Cw.rd (.cons e0 (.cons e1 (.cons e2 (.cons e3 (.cons e4 (.cons e5 .nil))))))) (BV a0 c0 a1 c1 a2 a3 a4 a5)
theorem Mi:Tryz.pinned.checked.prog.mainIs=some (Rows.topEmbargoEndsCard.stood.harness.1,Rows.topEmbargoEndsCard.stood.harness.2.toList):=by kernel_rfl
theorem Jo:Tryz.prog.funcNamed Rows.topEmbargoEndsRow.func=some 3:=by kernel_rfl
end Go.Proofs.YtdjfgcjlnfnfhaaGreatDoor
