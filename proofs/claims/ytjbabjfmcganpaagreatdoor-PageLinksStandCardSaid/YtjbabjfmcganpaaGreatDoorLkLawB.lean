/-
  PageLinksStand: the tied card.
-/
import Derived.Test.YtjbabjfmcganpaaGreatDoorLkL
import Derived.Test.YtjbabjfmcganpaaGreatDoorLwCard
import Derived.Test.YtjbabjfmcganpaaGreatDoorCards
import Derived.Test.YtjbabjfmcganpaaGreatDoorTie
set_option linter.unusedSimpArgs false
set_option linter.unusedVariables false
namespace Go.Proofs.YtjbabjfmcganpaaGreatDoor
open Go.Lw Go.RowKit Go.ChangeShapes Go.WideShapes Go.ChangeAt
set_option maxRecDepth 100000
set_option maxHeartbeats 1000000
theorem liftedPageLinksStand (os : Os) (started : os.Started) (H : Type) (enc : TypeId × Value → H) :
    ReturnsInHanded {} Tryz.checked os 3 .any (fun w args => (Rows.pageLinksStandSpec.pre enc Tryz.prog Tryz.f3 Rows.pageLinksStandRow.domain false w args ∧ laidMetH Tryz.prog Rows.pageLinksStandRow.laid w) ∧ sizedMet enc Tryz.prog Tryz.f3 (OpenSpec.ofChange Rows.pageLinksStandSpec) false w args)
      (Rows.pageLinksStandSpec.post enc Tryz.prog Tryz.f3 false true false false) := by
  refine handed_and_shaped (C := Tryz.checked) (X := fun w _ => laidMetH Tryz.prog Rows.pageLinksStandRow.laid w) (fun _ _ _ hh h => h.of_heap hh) own started (by kernel_rfl) Tryz.func3
    (ChangeSpec.witness_shaped (enc := enc) (C := Tryz.checked) (os := os) (X := fun w _ => laidMetH Tryz.prog Rows.pageLinksStandRow.laid w) false (World.laidAll Tryz.prog os Rows.pageLinksStandRow.laid) #[.slice none 0 0, .agg #[.string .empty, .string .empty, .string .empty, .string .empty, .string .empty, .bool false, .string .empty, .bool false]] 8 (World.laidAll_os _ _ _)
      (World.shaped_of_ZipB (by kernel_rfl) (by kernel_rfl)) (by kernel_rfl) (by kernel_rfl) (by kernel_rfl)
      (by rw [MakeChecks.laidMetH_plain _ _ _ (by kernel_rfl)]; exact laidMet_laidAll _ (by kernel_rfl) (by kernel_rfl))) ?_
  intro W base args ds gs before hval0 hW hwt hlaid hsh
  have hval : ∀ (j : Nat) t v, Tryz.f3.params[j]? = some t → args[j]? = some v → Value.okWide Tryz.prog W .any base t v := hval0
  have hW' := hW
  obtain ⟨p, q, hA0, _, _, _, _⟩ := hW
  have hA : DataW.TrodAll enc Tryz.prog W 0 (fun _ => true) true Tryz.f3.params.toList args.toList ds p := hA0
  rw [Tryz.params3] at hA hval hwt
  obtain ⟨v0, _, d0, _, p0, _, hargs, rfl, _, h0, r0⟩ := trodAll_cons hA
  obtain ⟨v1, _, d1, _, p1, _, rfl, rfl, _, h1, r1⟩ := trodAll_cons r0
  obtain ⟨rfl, rfl, _⟩ := trodAll_nil r1
  obtain rfl : args = #[v0, v1] := by cases args; simp_all
  obtain ⟨a0, c0, e0⟩ := opnA_by H enc W base v0 d0 p0 (hval 0 _ v0 rfl rfl) h0 (wt_arg hwt (j := 0) rfl rfl)
  obtain ⟨a1, c1, e1⟩ := opnA_adr H enc W base v1 d1 p1 (hval 1 _ v1 rfl rfl) h1 (wt_arg hwt (j := 1) rfl rfl)
  exact law_contract laidOut (of_decide_eq_true (by kernel_rfl)) rfl Tryz.underlying4 rfl (fun ds hd => by
    match ds, hd with
    | [_, _], _ => rfl) hW' (std_of_shaped (by kernel_rfl) hsh (stdErr_none (by kernel_rfl) (by kernel_rfl))) (ArgsL.rd (.cons e0 (.cons e1 .nil))) (standLaw_ok a0 a1 c0.1 c1)
theorem card_main : Tryz.pinned.checked.prog.mainIs = some (Rows.pageLinksStandCard.stood.harness.1, Rows.pageLinksStandCard.stood.harness.2.toList) := by kernel_rfl
theorem card_named : Tryz.prog.funcNamed Rows.pageLinksStandRow.func = some 3 := by kernel_rfl
end Go.Proofs.YtjbabjfmcganpaaGreatDoor
/-
  PageLinksStand: the tied card.
-/
set_option linter.unusedSimpArgs false
set_option linter.unusedVariables false
namespace Go.Proofs.YtjbabjfmcganpaaGreatDoor
open Go.Lw Go.RowKit Go.ChangeShapes Go.WideShapes Go.ChangeAt
set_option maxRecDepth 100000
set_option maxHeartbeats 1000000
theorem joined_inPlace : (Rows.pageLinksStandRow.inPlace == Tryz.pinned.checked.prog.inPlace 3) = true := by kernel_rfl
theorem joined_unfollowed : (Rows.pageLinksStandRow.unfollowed == Tryz.pinned.checked.prog.unfollowed 3) = true := by kernel_rfl
theorem joined_recurses : (Rows.pageLinksStandRow.recurses == Tryz.pinned.checked.prog.recurses 3) = true := by kernel_rfl
theorem joined_named : (Rows.pageLinksStandRow.named == Tryz.pinned.checked.prog.varsNamed 3) = true := by kernel_rfl
theorem joined_all : joinedFacts Tryz.pinned.checked.prog 3 Tryz.f3 Rows.pageLinksStandSpec Rows.pageLinksStandRow = true := by
  unfold joinedFacts
  rw [joined_inPlace, joined_unfollowed, joined_recurses, joined_named]
  kernel_rfl
theorem overPageLinksStand : Rows.pageLinksStandRow.holds Tryz.pinned (OpenSpec.ofChange Rows.pageLinksStandSpec) :=
  OpenClaim.holds_of_wide 3 Tryz.f3 rfl rfl rfl rfl rfl rfl rfl ⟨rfl, rfl, rfl, rfl, rfl⟩ rfl rfl rfl rfl rfl (by kernel_rfl) Tryz.func3 joined_all
    (of_decide_eq_true (by kernel_rfl)) (by unfold Func.isWrapper; first | (rw [if_pos (by decide +kernel)]; kernel_rfl) | (rw [if_neg (by decide +kernel)]; exact ⟨rfl, rfl⟩))
    (fun os started H enc _ => liftedPageLinksStand os started H enc)
end Go.Proofs.YtjbabjfmcganpaaGreatDoor
