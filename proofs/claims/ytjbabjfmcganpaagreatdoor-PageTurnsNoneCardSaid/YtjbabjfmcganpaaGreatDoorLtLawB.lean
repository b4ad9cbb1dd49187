/-
  PageTurnsNone: the tied card.
-/
import Derived.Test.YtjbabjfmcganpaaGreatDoorLtF
import Derived.Test.YtjbabjfmcganpaaGreatDoorLwCard
import Derived.Test.YtjbabjfmcganpaaGreatDoorCards
import Derived.Test.YtjbabjfmcganpaaGreatDoorTie
set_option linter.unusedSimpArgs false
set_option linter.unusedVariables false
namespace Go.Proofs.YtjbabjfmcganpaaGreatDoor
open Go.Lw Go.RowKit Go.ChangeShapes Go.WideShapes Go.ChangeAt
set_option maxRecDepth 100000
set_option maxHeartbeats 1000000
theorem liftedPageTurnsNone (os : Os) (started : os.Started) (H : Type) (enc : TypeId × Value → H) :
    ReturnsInHanded {} Tryz.checked os 4 .any (fun w args => (Rows.pageTurnsNoneSpec.pre enc Tryz.prog Tryz.f4 Rows.pageTurnsNoneRow.domain false w args ∧ laidMetH Tryz.prog Rows.pageTurnsNoneRow.laid w) ∧ sizedMet enc Tryz.prog Tryz.f4 (OpenSpec.ofChange Rows.pageTurnsNoneSpec) false w args)
      (Rows.pageTurnsNoneSpec.post enc Tryz.prog Tryz.f4 false true false false) := by
  refine handed_and_shaped (C := Tryz.checked) (X := fun w _ => laidMetH Tryz.prog Rows.pageTurnsNoneRow.laid w) (fun _ _ _ hh h => h.of_heap hh) own started (by kernel_rfl) Tryz.func4
    (ChangeSpec.witness_shaped (enc := enc) (C := Tryz.checked) (os := os) (X := fun w _ => laidMetH Tryz.prog Rows.pageTurnsNoneRow.laid w) false (World.laidAll Tryz.prog os Rows.pageTurnsNoneRow.laid) #[.slice none 0 0, .agg #[.string .empty, .string .empty, .string .empty, .string .empty, .string .empty, .bool false, .string .empty, .bool false], .slice none 0 0] 8 (World.laidAll_os _ _ _)
      (World.shaped_of_ZipB (by kernel_rfl) (by kernel_rfl)) (by kernel_rfl) (by kernel_rfl) (by kernel_rfl)
      (by rw [MakeChecks.laidMetH_plain _ _ _ (by kernel_rfl)]; exact laidMet_laidAll _ (by kernel_rfl) (by kernel_rfl))) ?_
  intro W base args ds gs before hval0 hW hwt hlaid hsh
  have hval : ∀ (j : Nat) t v, Tryz.f4.params[j]? = some t → args[j]? = some v → Value.okWide Tryz.prog W .any base t v := hval0
  have hW' := hW
  obtain ⟨p, q, hA0, _, _, _, _⟩ := hW
  have hA : DataW.TrodAll enc Tryz.prog W 0 (fun _ => true) true Tryz.f4.params.toList args.toList ds p := hA0
  rw [Tryz.params4] at hA hval hwt
  obtain ⟨v0, _, d0, _, p0, _, hargs, rfl, _, h0, r0⟩ := trodAll_cons hA
  obtain ⟨v1, _, d1, _, p1, _, rfl, rfl, _, h1, r1⟩ := trodAll_cons r0
  obtain ⟨v2, _, d2, _, p2, _, rfl, rfl, _, h2, r2⟩ := trodAll_cons r1
  obtain ⟨rfl, rfl, _⟩ := trodAll_nil r2
  obtain rfl : args = #[v0, v1, v2] := by cases args; simp_all
  obtain ⟨a0, c0, e0⟩ := opnA_by H enc W base v0 d0 p0 (hval 0 _ v0 rfl rfl) h0 (wt_arg hwt (j := 0) rfl rfl)
  obtain ⟨a1, c1, e1⟩ := opnA_adr H enc W base v1 d1 p1 (hval 1 _ v1 rfl rfl) h1 (wt_arg hwt (j := 1) rfl rfl)
  obtain ⟨a2, c2, e2⟩ := opnA_trns H enc W base v2 d2 p2 (hval 2 _ v2 rfl rfl) h2 (wt_arg hwt (j := 2) rfl rfl)
  exact law_contract laidOut (of_decide_eq_true (by kernel_rfl)) rfl Tryz.underlying4 rfl (fun ds hd => by
    match ds, hd with
    | [_, _, _], _ => rfl) hW' (std_of_shaped (by kernel_rfl) hsh (stdErr_none (by kernel_rfl) (by kernel_rfl))) (ArgsL.rd (.cons e0 (.cons e1 (.cons e2 .nil)))) (turnsNone_ok a0 a1 a2 c0.1 c1 (trnsFit c2))
theorem card_main : Tryz.pinned.checked.prog.mainIs = some (Rows.pageTurnsNoneCard.stood.harness.1, Rows.pageTurnsNoneCard.stood.harness.2.toList) := by kernel_rfl
theorem card_named : Tryz.prog.funcNamed Rows.pageTurnsNoneRow.func = some 4 := by kernel_rfl
end Go.Proofs.YtjbabjfmcganpaaGreatDoor
/-
  PageTurnsNone: the tied card.
-/
set_option linter.unusedSimpArgs false
set_option linter.unusedVariables false
namespace Go.Proofs.YtjbabjfmcganpaaGreatDoor
open Go.Lw Go.RowKit Go.ChangeShapes Go.WideShapes Go.ChangeAt
set_option maxRecDepth 100000
set_option maxHeartbeats 1000000
theorem joined_inPlace : (Rows.pageTurnsNoneRow.inPlace == Tryz.pinned.checked.prog.inPlace 4) = true := by kernel_rfl
theorem joined_unfollowed : (Rows.pageTurnsNoneRow.unfollowed == Tryz.pinned.checked.prog.unfollowed 4) = true := by kernel_rfl
theorem joined_recurses : (Rows.pageTurnsNoneRow.recurses == Tryz.pinned.checked.prog.recurses 4) = true := by kernel_rfl
theorem joined_named : (Rows.pageTurnsNoneRow.named == Tryz.pinned.checked.prog.varsNamed 4) = true := by kernel_rfl
theorem joined_all : joinedFacts Tryz.pinned.checked.prog 4 Tryz.f4 Rows.pageTurnsNoneSpec Rows.pageTurnsNoneRow = true := by
  unfold joinedFacts
  rw [joined_inPlace, joined_unfollowed, joined_recurses, joined_named]
  kernel_rfl
theorem overPageTurnsNone : Rows.pageTurnsNoneRow.holds Tryz.pinned (OpenSpec.ofChange Rows.pageTurnsNoneSpec) :=
  OpenClaim.holds_of_wide 4 Tryz.f4 rfl rfl rfl rfl rfl rfl rfl ⟨rfl, rfl, rfl, rfl, rfl⟩ rfl rfl rfl rfl rfl (by kernel_rfl) Tryz.func4 joined_all
    (of_decide_eq_true (by kernel_rfl)) (by unfold Func.isWrapper; first | (rw [if_pos (by decide +kernel)]; kernel_rfl) | (rw [if_neg (by decide +kernel)]; exact ⟨rfl, rfl⟩))
    (fun os started H enc _ => liftedPageTurnsNone os started H enc)
end Go.Proofs.YtjbabjfmcganpaaGreatDoor
