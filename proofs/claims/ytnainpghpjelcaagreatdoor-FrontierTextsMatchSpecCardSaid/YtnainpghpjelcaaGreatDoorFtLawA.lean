/-
  FRONTIER: FrontierTextsMatchSpec: the tied card.
-/
import Derived.Test.YtnainpghpjelcaaGreatDoorFtF
import Derived.Test.YtnainpghpjelcaaGreatDoorLwCard
import Derived.Test.YtnainpghpjelcaaGreatDoorCards
import Derived.Test.YtnainpghpjelcaaGreatDoorTie
import Derived.Stop.LaidErr
import Derived.Lib.LaidTab
set_option linter.unusedSimpArgs false
set_option linter.unusedVariables false
namespace Go.Proofs.YtnainpghpjelcaaGreatDoor
open Go.Lw Go.RowKit Go.ChangeShapes Go.WideShapes Go.ChangeAt
set_option maxRecDepth 100000
set_option maxHeartbeats 1000000
theorem err_laid {W : World} (h : laidMetH Tryz.prog Rows.frontierTextsMatchSpecRow.laid W) : stdErr Tryz.prog W := by
  rw [MakeChecks.laidMetH_plain _ _ _ (by kernel_rfl)] at h
  refine ⟨fun g _ hg => ?_, fun g _ hg => ?_⟩
  · have hg2 : Tryz.prog.globalNamed "strconv.ErrSyntax" = some 4 := by kernel_rfl
    obtain rfl := Option.some.inj (hg2.symm.trans hg)
    exact err_of_laid h.tail.tail.tail.tail.tail hg2 (ti := 127) (by kernel_rfl) Tryz.underlying127
  · have hg2 : Tryz.prog.globalNamed "internal/strconv.uint64pow10" = some 1 := by kernel_rfl
    obtain rfl := Option.some.inj (hg2.symm.trans hg)
    have h3 : Lib.TabIs Tryz.prog W "internal/strconv.uint64pow10" .u64 Lib.pow10Tab := Lib.tabIs_of_head (n := 20) hg2 (t := 261) (e := 239) (by kernel_rfl) Tryz.underlying261 Tryz.underlying239 (by kernel_rfl) (by kernel_rfl) h.tail.tail
    unfold Lib.TabIs World.var? at h3
    rw [hg2] at h3
    simp only [Option.bind_some] at h3
    split at h3
    · rename_i cs t fr hh
      cases h3
      exact ⟨t, fr, hh⟩
    · cases h3
theorem liftedFrontierTextsMatchSpec (os : Os) (started : os.Started) (H : Type) (enc : TypeId × Value → H) :
    ReturnsInHanded {} Tryz.checked os 8 .any (fun w args => (Rows.frontierTextsMatchSpecSpec.pre enc Tryz.prog Tryz.f8 Rows.frontierTextsMatchSpecRow.domain false w args ∧ laidMetH Tryz.prog Rows.frontierTextsMatchSpecRow.laid w) ∧ sizedMet enc Tryz.prog Tryz.f8 (OpenSpec.ofChange Rows.frontierTextsMatchSpecSpec) false w args)
      (Rows.frontierTextsMatchSpecSpec.post enc Tryz.prog Tryz.f8 false true false false) := by
  refine handed_and_shaped (C := Tryz.checked) (X := fun w _ => laidMetH Tryz.prog Rows.frontierTextsMatchSpecRow.laid w) (fun _ _ _ hh h => h.of_heap hh) own started (by kernel_rfl) Tryz.func8
    (ChangeSpec.witness_shaped (enc := enc) (C := Tryz.checked) (os := os) (X := fun w _ => laidMetH Tryz.prog Rows.frontierTextsMatchSpecRow.laid w) false (World.laidAll Tryz.prog os Rows.frontierTextsMatchSpecRow.laid) #[.agg #[.slice none 0 0, .slice none 0 0, .int .i64 0, .int .i64 0]] 8 (World.laidAll_os _ _ _)
      (World.shaped_of_ZipB (by kernel_rfl) (by kernel_rfl)) (by kernel_rfl) (by kernel_rfl) (by kernel_rfl)
      (by rw [MakeChecks.laidMetH_plain _ _ _ (by kernel_rfl)]; exact laidMet_laidAll _ (by kernel_rfl) (by kernel_rfl))) ?_
  intro W base args ds gs before hval0 hW hwt hlaid hsh
  have hval : ∀ (j : Nat) t v, Tryz.f8.params[j]? = some t → args[j]? = some v → Value.okWide Tryz.prog W .any base t v := hval0
  have hW' := hW
  obtain ⟨p, q, hA0, _, _, _, _⟩ := hW
  have hA : DataW.TrodAll enc Tryz.prog W 0 (fun _ => true) true Tryz.f8.params.toList args.toList ds p := hA0
  rw [Tryz.params8] at hA hval hwt
  obtain ⟨v0, _, d0, _, p0, _, hargs, rfl, _, h0, r0⟩ := trodAll_cons hA
  obtain ⟨rfl, rfl, _⟩ := trodAll_nil r0
  obtain rfl : args = #[v0] := by cases args; simp_all
  obtain ⟨a0, c0, e0⟩ := opnA_fr H enc W base v0 d0 p0 (hval 0 _ v0 rfl rfl) h0 (wt_arg hwt (j := 0) rfl rfl)
  exact law_contract laidOut (of_decide_eq_true (by kernel_rfl)) rfl Tryz.underlying4 rfl (fun ds hd => by
    match ds, hd with
    | [_], _ => rfl) hW' (std_of_shaped (by kernel_rfl) hsh (err_laid hlaid)) (ArgsL.rd (.cons e0 .nil)) (textsSpec_ok a0 (frOk_of c0))
theorem card_main : Tryz.pinned.checked.prog.mainIs = some (Rows.frontierTextsMatchSpecCard.stood.harness.1, Rows.frontierTextsMatchSpecCard.stood.harness.2.toList) := by kernel_rfl
theorem card_named : Tryz.prog.funcNamed Rows.frontierTextsMatchSpecRow.func = some 8 := by kernel_rfl
end Go.Proofs.YtnainpghpjelcaaGreatDoor
