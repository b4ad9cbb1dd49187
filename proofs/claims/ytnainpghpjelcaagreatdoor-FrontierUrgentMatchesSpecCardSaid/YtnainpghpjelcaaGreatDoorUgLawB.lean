/-
  FRONTIER: FrontierUrgentMatchesSpec: the tied card.
-/
import Derived.Test.YtnainpghpjelcaaGreatDoorUgK
import Derived.Test.YtnainpghpjelcaaGreatDoorLwCard
import Derived.Test.YtnainpghpjelcaaGreatDoorCards
import Derived.Test.YtnainpghpjelcaaGreatDoorTie
import Derived.Stop.LaidErr
import Derived.Lib.LaidTab
set_option linter.unusedSimpArgs false
set_option linter.unusedVariables false
namespace Go.Proofs.YtnainpghpjelcaaGreatDoor
open Go.Lw Go.RowKit Go.ChangeShapes Go.WideShapes Go.ChangeAt
set_option maxRecDepth 100000
set_option maxHeartbeats 1000000
theorem err_laid {W : World} (h : laidMetH Tryz.prog Rows.frontierUrgentMatchesSpecRow.laid W) : stdErr Tryz.prog W := by
  rw [MakeChecks.laidMetH_plain _ _ _ (by kernel_rfl)] at h
  refine ⟨fun g _ hg => ?_, fun g _ hg => ?_⟩
  · have hg2 : Tryz.prog.globalNamed "strconv.ErrSyntax" = some 4 := by kernel_rfl
    obtain rfl := Option.some.inj (hg2.symm.trans hg)
    exact err_of_laid h.tail.tail.tail.tail.tail hg2 (ti := 127) (by kernel_rfl) Tryz.underlying127
  · have hg2 : Tryz.prog.globalNamed "internal/strconv.uint64pow10" = some 1 := by kernel_rfl
    obtain rfl := Option.some.inj (hg2.symm.trans hg)
    have h3 : Lib.TabIs Tryz.prog W "internal/strconv.uint64pow10" .u64 Lib.pow10Tab := Lib.tabIs_of_head (n := 20) hg2 (t := 261) (e := 239) (by kernel_rfl) Tryz.underlying261 Tryz.underlying239 (by kernel_rfl) (by kernel_rfl) h.tail.tail
    unfold Lib.TabIs World.var? at h3
    rw [hg2] at h3
    simp only [Option.bind_some] at h3
    split at h3
    · rename_i cs t fr hh
      cases h3
      exact ⟨t, fr, hh⟩
    · cases h3
theorem liftedFrontierUrgentMatchesSpec (os : Os) (started : os.Started) (H : Type) (enc : TypeId × Value → H) :
    ReturnsInHanded {} Tryz.checked os 10 .any (fun w args => (Rows.frontierUrgentMatchesSpecSpec.pre enc Tryz.prog Tryz.f10 Rows.frontierUrgentMatchesSpecRow.domain false w args ∧ laidMetH Tryz.prog Rows.frontierUrgentMatchesSpecRow.laid w) ∧ sizedMet enc Tryz.prog Tryz.f10 (OpenSpec.ofChange Rows.frontierUrgentMatchesSpecSpec) false w args)
      (Rows.frontierUrgentMatchesSpecSpec.post enc Tryz.prog Tryz.f10 false true false false) := by
  refine handed_and_shaped (C := Tryz.checked) (X := fun w _ => laidMetH Tryz.prog Rows.frontierUrgentMatchesSpecRow.laid w) (fun _ _ _ hh h => h.of_heap hh) own started (by kernel_rfl) Tryz.func10
    (ChangeSpec.witness_shaped (enc := enc) (C := Tryz.checked) (os := os) (X := fun w _ => laidMetH Tryz.prog Rows.frontierUrgentMatchesSpecRow.laid w) false (World.laidAll Tryz.prog os Rows.frontierUrgentMatchesSpecRow.laid) #[.slice none 0 0, .int .i64 0, .int .i64 0] 8 (World.laidAll_os _ _ _)
      (World.shaped_of_ZipB (by kernel_rfl) (by kernel_rfl)) (by kernel_rfl) (by kernel_rfl) (by kernel_rfl)
      (by rw [MakeChecks.laidMetH_plain _ _ _ (by kernel_rfl)]; exact laidMet_laidAll _ (by kernel_rfl) (by kernel_rfl))) ?_
  intro W base args ds gs before hval0 hW hwt hlaid hsh
  have hval : ∀ (j : Nat) t v, Tryz.f10.params[j]? = some t → args[j]? = some v → Value.okWide Tryz.prog W .any base t v := hval0
  have hW' := hW
  obtain ⟨p, q, hA0, _, _, _, _⟩ := hW
  have hA : DataW.TrodAll enc Tryz.prog W 0 (fun _ => true) true Tryz.f10.params.toList args.toList ds p := hA0
  rw [Tryz.params10] at hA hval hwt
  obtain ⟨v0, _, d0, _, p0, _, hargs, rfl, _, h0, r0⟩ := trodAll_cons hA
  obtain ⟨v1, _, d1, _, p1, _, rfl, rfl, _, h1, r1⟩ := trodAll_cons r0
  obtain ⟨v2, _, d2, _, p2, _, rfl, rfl, _, h2, r2⟩ := trodAll_cons r1
  obtain ⟨rfl, rfl, _⟩ := trodAll_nil r2
  obtain rfl : args = #[v0, v1, v2] := by cases args; simp_all
  obtain ⟨a0, c0, e0⟩ := opnA_wtcs H enc W base v0 d0 p0 (hval 0 _ v0 rfl rfl) h0 (wt_arg hwt (j := 0) rfl rfl)
  obtain ⟨a1, c1, e1⟩ := opnA_i H enc W base v1 d1 p1 (hval 1 _ v1 rfl rfl) h1 (wt_arg hwt (j := 1) rfl rfl)
  obtain ⟨a2, c2, e2⟩ := opnA_i H enc W base v2 d2 p2 (hval 2 _ v2 rfl rfl) h2 (wt_arg hwt (j := 2) rfl rfl)
  exact law_contract laidOut (of_decide_eq_true (by kernel_rfl)) rfl Tryz.underlying4 rfl (fun ds hd => by
    match ds, hd with
    | [_, _, _], _ => rfl) hW' (std_of_shaped (by kernel_rfl) hsh (err_laid hlaid)) (ArgsL.rd (.cons e0 (.cons e1 (.cons e2 .nil)))) (urgSpecF_ok a0 a1 a2 c0)
theorem card_main : Tryz.pinned.checked.prog.mainIs = some (Rows.frontierUrgentMatchesSpecCard.stood.harness.1, Rows.frontierUrgentMatchesSpecCard.stood.harness.2.toList) := by kernel_rfl
theorem card_named : Tryz.prog.funcNamed Rows.frontierUrgentMatchesSpecRow.func = some 10 := by kernel_rfl
end Go.Proofs.YtnainpghpjelcaaGreatDoor
/-
  FRONTIER: FrontierUrgentMatchesSpec: the tied card.
-/
set_option linter.unusedSimpArgs false
set_option linter.unusedVariables false
namespace Go.Proofs.YtnainpghpjelcaaGreatDoor
open Go.Lw Go.RowKit Go.ChangeShapes Go.WideShapes Go.ChangeAt
set_option maxRecDepth 100000
set_option maxHeartbeats 1000000
theorem joined_inPlace : (Rows.frontierUrgentMatchesSpecRow.inPlace == Tryz.pinned.checked.prog.inPlace 10) = true := by kernel_rfl
theorem joined_unfollowed : (Rows.frontierUrgentMatchesSpecRow.unfollowed == Tryz.pinned.checked.prog.unfollowed 10) = true := by kernel_rfl
theorem joined_recurses : (Rows.frontierUrgentMatchesSpecRow.recurses == Tryz.pinned.checked.prog.recurses 10) = true := by kernel_rfl
theorem joined_named : (Rows.frontierUrgentMatchesSpecRow.named == Tryz.pinned.checked.prog.varsNamed 10) = true := by kernel_rfl
theorem joined_all : joinedFacts Tryz.pinned.checked.prog 10 Tryz.f10 Rows.frontierUrgentMatchesSpecSpec Rows.frontierUrgentMatchesSpecRow = true := by
  unfold joinedFacts
  rw [joined_inPlace, joined_unfollowed, joined_recurses, joined_named]
  kernel_rfl
theorem overFrontierUrgentMatchesSpec : Rows.frontierUrgentMatchesSpecRow.holds Tryz.pinned (OpenSpec.ofChange Rows.frontierUrgentMatchesSpecSpec) :=
  OpenClaim.holds_of_wide 10 Tryz.f10 rfl rfl rfl rfl rfl rfl rfl ⟨rfl, rfl, rfl, rfl, rfl⟩ rfl rfl rfl rfl rfl (by kernel_rfl) Tryz.func10 joined_all
    (of_decide_eq_true (by kernel_rfl)) (by unfold Func.isWrapper; first | (rw [if_pos (by decide +kernel)]; kernel_rfl) | (rw [if_neg (by decide +kernel)]; exact ⟨rfl, rfl⟩))
    (fun os started H enc _ => liftedFrontierUrgentMatchesSpec os started H enc)
end Go.Proofs.YtnainpghpjelcaaGreatDoor
