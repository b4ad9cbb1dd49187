/-
  TopListsFillFrontiers: the tied card.
-/
import Derived.Test.YtpmfmjgnhdfakaaGreatDoorTlL
import Derived.Test.YtpmfmjgnhdfakaaGreatDoorLwCard
import Derived.Test.YtpmfmjgnhdfakaaGreatDoorCards
import Derived.Test.YtpmfmjgnhdfakaaGreatDoorTie
import Derived.Stop.LaidErr
import Derived.Lib.LaidTab
set_option linter.unusedSimpArgs false
set_option linter.unusedVariables false
namespace Go.Proofs.YtpmfmjgnhdfakaaGreatDoor
open Go.Lw Go.RowKit Go.ChangeShapes Go.WideShapes Go.ChangeAt
set_option maxRecDepth 100000
set_option maxHeartbeats 1000000
theorem err_laid {W : World} (h : laidMetH Tryz.prog Rows.topListsFillFrontiersRow.laid W) : stdErr Tryz.prog W := by
  rw [MakeChecks.laidMetH_plain _ _ _ (by kernel_rfl)] at h
  refine ⟨fun g _ hg => ?_, fun g _ hg => ?_⟩
  · have hg2 : Tryz.prog.globalNamed "strconv.ErrSyntax" = some 4 := by kernel_rfl
    obtain rfl := Option.some.inj (hg2.symm.trans hg)
    exact err_of_laid h.tail.tail.tail.tail.tail hg2 (ti := 168) (by kernel_rfl) Tryz.underlying168
  · have hg2 : Tryz.prog.globalNamed "internal/strconv.uint64pow10" = some 3 := by kernel_rfl
    obtain rfl := Option.some.inj (hg2.symm.trans hg)
    have h3 : Lib.TabIs Tryz.prog W "internal/strconv.uint64pow10" .u64 Lib.pow10Tab := Lib.tabIs_of_head (n := 20) hg2 (t := 206) (e := 96) (by kernel_rfl) Tryz.underlying206 Tryz.underlying96 (by kernel_rfl) (by kernel_rfl) h.tail.tail
    unfold Lib.TabIs World.var? at h3
    rw [hg2] at h3
    simp only [Option.bind_some] at h3
    split at h3
    · rename_i cs t fr hh
      cases h3
      exact ⟨t, fr, hh⟩
    · cases h3
theorem liftedTopListsFillFrontiers (os : Os) (started : os.Started) (H : Type) (enc : TypeId × Value → H) :
    ReturnsInHanded {} Tryz.checked os 3 .any (fun w args => (Rows.topListsFillFrontiersSpec.pre enc Tryz.prog Tryz.f3 Rows.topListsFillFrontiersRow.domain false w args ∧ laidMetH Tryz.prog Rows.topListsFillFrontiersRow.laid w) ∧ sizedMet enc Tryz.prog Tryz.f3 (OpenSpec.ofChange Rows.topListsFillFrontiersSpec) false w args)
      (Rows.topListsFillFrontiersSpec.post enc Tryz.prog Tryz.f3 false true false false) := by
  refine handed_and_shaped (C := Tryz.checked) (X := fun w _ => laidMetH Tryz.prog Rows.topListsFillFrontiersRow.laid w) (fun _ _ _ hh h => h.of_heap hh) own started (by kernel_rfl) Tryz.func3
    (ChangeSpec.witness_shaped (enc := enc) (C := Tryz.checked) (os := os) (X := fun w _ => laidMetH Tryz.prog Rows.topListsFillFrontiersRow.laid w) false (World.laidAll Tryz.prog os Rows.topListsFillFrontiersRow.laid) #[.agg #[.bool false, .slice none 0 0], .agg #[.string .empty, .string .empty, .string .empty, .string .empty, .string .empty, .bool false, .string .empty, .bool false], .slice none 0 0] 8 (World.laidAll_os _ _ _)
      (World.shaped_of_ZipB (by kernel_rfl) (by kernel_rfl)) (by kernel_rfl) (by kernel_rfl) (by kernel_rfl)
      (by rw [MakeChecks.laidMetH_plain _ _ _ (by kernel_rfl)]; exact laidMet_laidAll _ (by kernel_rfl) (by kernel_rfl))) ?_
  intro W base args ds gs before hval0 hW hwt hlaid hsh
  have hval : ∀ (j : Nat) t v, Tryz.f3.params[j]? = some t → args[j]? = some v → Value.okWide Tryz.prog W .any base t v := hval0
  have hW' := hW
  obtain ⟨p, q, hA0, _, _, _, _⟩ := hW
  have hA : DataW.TrodAll enc Tryz.prog W 0 (fun _ => true) true Tryz.f3.params.toList args.toList ds p := hA0
  rw [Tryz.params3] at hA hval hwt
  obtain ⟨v0, _, d0, _, p0, _, hargs, rfl, _, h0, r0⟩ := trodAll_cons hA
  obtain ⟨v1, _, d1, _, p1, _, rfl, rfl, _, h1, r1⟩ := trodAll_cons r0
  obtain ⟨v2, _, d2, _, p2, _, rfl, rfl, _, h2, r2⟩ := trodAll_cons r1
  obtain ⟨rfl, rfl, _⟩ := trodAll_nil r2
  obtain rfl : args = #[v0, v1, v2] := by cases args; simp_all
  obtain ⟨a0, c0, e0⟩ := opnA_sm H enc W base v0 d0 p0 (hval 0 _ v0 rfl rfl) h0 (wt_arg hwt (j := 0) rfl rfl)
  obtain ⟨a1, c1, e1⟩ := opnA_adr H enc W base v1 d1 p1 (hval 1 _ v1 rfl rfl) h1 (wt_arg hwt (j := 1) rfl rfl)
  obtain ⟨a2, c2, e2⟩ := opnA_ruls H enc W base v2 d2 p2 (hval 2 _ v2 rfl rfl) h2 (wt_arg hwt (j := 2) rfl rfl)
  exact law_contract laidOut (of_decide_eq_true (by kernel_rfl)) rfl Tryz.underlying4 rfl (fun ds hd => by
    match ds, hd with
    | [_, _, _], _ => rfl) hW' (std_of_shaped (by kernel_rfl) hsh (err_laid hlaid)) (ArgsL.rd (.cons e0 (.cons e1 (.cons e2 .nil)))) (listsLaw_ok a0 a1 a2 (mapFits c0) c1 c2)
theorem card_main : Tryz.pinned.checked.prog.mainIs = some (Rows.topListsFillFrontiersCard.stood.harness.1, Rows.topListsFillFrontiersCard.stood.harness.2.toList) := by kernel_rfl
theorem card_named : Tryz.prog.funcNamed Rows.topListsFillFrontiersRow.func = some 3 := by kernel_rfl
end Go.Proofs.YtpmfmjgnhdfakaaGreatDoor
/-
  TopListsFillFrontiers: the tied card.
-/
set_option linter.unusedSimpArgs false
set_option linter.unusedVariables false
namespace Go.Proofs.YtpmfmjgnhdfakaaGreatDoor
open Go.Lw Go.RowKit Go.ChangeShapes Go.WideShapes Go.ChangeAt
set_option maxRecDepth 100000
set_option maxHeartbeats 1000000
theorem joined_inPlace : (Rows.topListsFillFrontiersRow.inPlace == Tryz.pinned.checked.prog.inPlace 3) = true := by kernel_rfl
theorem joined_unfollowed : (Rows.topListsFillFrontiersRow.unfollowed == Tryz.pinned.checked.prog.unfollowed 3) = true := by kernel_rfl
theorem joined_recurses : (Rows.topListsFillFrontiersRow.recurses == Tryz.pinned.checked.prog.recurses 3) = true := by kernel_rfl
theorem joined_named : (Rows.topListsFillFrontiersRow.named == Tryz.pinned.checked.prog.varsNamed 3) = true := by kernel_rfl
theorem joined_all : joinedFacts Tryz.pinned.checked.prog 3 Tryz.f3 Rows.topListsFillFrontiersSpec Rows.topListsFillFrontiersRow = true := by
  unfold joinedFacts
  rw [joined_inPlace, joined_unfollowed, joined_recurses, joined_named]
  kernel_rfl
theorem overTopListsFillFrontiers : Rows.topListsFillFrontiersRow.holds Tryz.pinned (OpenSpec.ofChange Rows.topListsFillFrontiersSpec) :=
  OpenClaim.holds_of_wide 3 Tryz.f3 rfl rfl rfl rfl rfl rfl rfl ⟨rfl, rfl, rfl, rfl, rfl⟩ rfl rfl rfl rfl rfl (by kernel_rfl) Tryz.func3 joined_all
    (of_decide_eq_true (by kernel_rfl)) (by unfold Func.isWrapper; first | (rw [if_pos (by decide +kernel)]; kernel_rfl) | (rw [if_neg (by decide +kernel)]; exact ⟨rfl, rfl⟩))
    (fun os started H enc _ => liftedTopListsFillFrontiers os started H enc)
end Go.Proofs.YtpmfmjgnhdfakaaGreatDoor
