/-
  ADDRESS: AddressScopesLast: the tied card.
-/
import Derived.Test.YtglonkenckigiaaGreatDoorScE
import Derived.Test.YtglonkenckigiaaGreatDoorLwCard
import Derived.Test.YtglonkenckigiaaGreatDoorCards
import Derived.Test.YtglonkenckigiaaGreatDoorTie
set_option linter.unusedSimpArgs false
set_option linter.unusedVariables false
namespace Go.Proofs.YtglonkenckigiaaGreatDoor
open Go.Lw Go.RowKit Go.ChangeShapes Go.WideShapes Go.ChangeAt
set_option maxRecDepth 100000
set_option maxHeartbeats 1000000
theorem liftedAddressScopesLast (os : Os) (started : os.Started) (H : Type) (enc : TypeId × Value → H) :
    ReturnsInHanded {} Tryz.checked os 6 .any (fun w args => (Rows.addressScopesLastSpec.pre enc Tryz.prog Tryz.f6 Rows.addressScopesLastRow.domain false w args ∧ laidMetH Tryz.prog Rows.addressScopesLastRow.laid w) ∧ sizedMet enc Tryz.prog Tryz.f6 (OpenSpec.ofChange Rows.addressScopesLastSpec) false w args)
      (Rows.addressScopesLastSpec.post enc Tryz.prog Tryz.f6 false true false false) := by
  refine handed_and_shaped (C := Tryz.checked) (X := fun w _ => laidMetH Tryz.prog Rows.addressScopesLastRow.laid w) (fun _ _ _ hh h => h.of_heap hh) own started (by kernel_rfl) Tryz.func6
    (ChangeSpec.witness_shaped (enc := enc) (C := Tryz.checked) (os := os) (X := fun w _ => laidMetH Tryz.prog Rows.addressScopesLastRow.laid w) false (World.laidAll Tryz.prog os Rows.addressScopesLastRow.laid) #[.slice none 0 0, .agg #[.int .i64 0, .string .empty, .bool false], .string .empty] 8 (World.laidAll_os _ _ _)
      (World.shaped_of_ZipB (by kernel_rfl) (by kernel_rfl)) (by kernel_rfl) (by kernel_rfl) (by kernel_rfl)
      (by rw [MakeChecks.laidMetH_plain _ _ _ (by kernel_rfl)]; exact laidMet_laidAll _ (by kernel_rfl) (by kernel_rfl))) ?_
  intro W base args ds gs before hval0 hW hwt hlaid hsh
  have hval : ∀ (j : Nat) t v, Tryz.f6.params[j]? = some t → args[j]? = some v → Value.okWide Tryz.prog W .any base t v := hval0
  have hW' := hW
  obtain ⟨p, q, hA0, _, _, _, _⟩ := hW
  have hA : DataW.TrodAll enc Tryz.prog W 0 (fun _ => true) true Tryz.f6.params.toList args.toList ds p := hA0
  rw [Tryz.params6] at hA hval hwt
  obtain ⟨v0, _, d0, _, p0, _, hargs, rfl, _, h0, r0⟩ := trodAll_cons hA
  obtain ⟨v1, _, d1, _, p1, _, rfl, rfl, _, h1, r1⟩ := trodAll_cons r0
  obtain ⟨v2, _, d2, _, p2, _, rfl, rfl, _, h2, r2⟩ := trodAll_cons r1
  obtain ⟨rfl, rfl, _⟩ := trodAll_nil r2
  obtain rfl : args = #[v0, v1, v2] := by cases args; simp_all
  obtain ⟨a0, c0, e0⟩ := opnA_scps H enc W base v0 d0 p0 (hval 0 _ v0 rfl rfl) h0 (wt_arg hwt (j := 0) rfl rfl)
  obtain ⟨a1, c1, e1⟩ := opnA_scp H enc W base v1 d1 p1 (hval 1 _ v1 rfl rfl) h1 (wt_arg hwt (j := 1) rfl rfl)
  obtain ⟨a2, c2, e2⟩ := opnA_s H enc W base v2 d2 p2 (hval 2 _ v2 rfl rfl) h2 (wt_arg hwt (j := 2) rfl rfl)
  exact law_contract laidOut (of_decide_eq_true (by kernel_rfl)) rfl Tryz.underlying4 rfl (fun ds hd => by
    match ds, hd with
    | [_, _, _], _ => rfl) hW' (std_of_shaped (by kernel_rfl) hsh (stdErr_none (by kernel_rfl) (by kernel_rfl))) (ArgsL.rd (.cons e0 (.cons e1 (.cons e2 .nil)))) (scopesLast_ok a0 a1 a2 c0 c1 c2)
theorem joined_inPlace : (Rows.addressScopesLastRow.inPlace == Tryz.pinned.checked.prog.inPlace 6) = true := by kernel_rfl
theorem joined_unfollowed : (Rows.addressScopesLastRow.unfollowed == Tryz.pinned.checked.prog.unfollowed 6) = true := by kernel_rfl
theorem joined_recurses : (Rows.addressScopesLastRow.recurses == Tryz.pinned.checked.prog.recurses 6) = true := by kernel_rfl
theorem joined_named : (Rows.addressScopesLastRow.named == Tryz.pinned.checked.prog.varsNamed 6) = true := by kernel_rfl
theorem joined_all : joinedFacts Tryz.pinned.checked.prog 6 Tryz.f6 Rows.addressScopesLastSpec Rows.addressScopesLastRow = true := by
  unfold joinedFacts
  rw [joined_inPlace, joined_unfollowed, joined_recurses, joined_named]
  kernel_rfl
theorem overAddressScopesLast : Rows.addressScopesLastRow.holds Tryz.pinned (OpenSpec.ofChange Rows.addressScopesLastSpec) :=
  OpenClaim.holds_of_wide 6 Tryz.f6 rfl rfl rfl rfl rfl rfl rfl ⟨rfl, rfl, rfl, rfl, rfl⟩ rfl rfl rfl rfl rfl (by kernel_rfl) Tryz.func6 joined_all
    (of_decide_eq_true (by kernel_rfl)) (by unfold Func.isWrapper; first | (rw [if_pos (by decide +kernel)]; kernel_rfl) | (rw [if_neg (by decide +kernel)]; exact ⟨rfl, rfl⟩))
    (fun os started H enc _ => liftedAddressScopesLast os started H enc)

/-- The given statement. -/
theorem addressScopesLast_proved : Rows.AddressScopesLastCardSaid :=
  Claim7.holds_tied_plain_at .later [] Rows.addressScopesLastCard.laidKinds true Rows.addressScopesLastCard.stood.harness Rows.addressScopesLastCard.stood.looks overAddressScopesLast (fun _ h => by cases h) (by kernel_rfl) (fun _ h => by cases h) addressScopesLast_row_tie rfl ⟨rfl, rfl⟩ (by kernel_rfl) rfl
    (fun f fn hf hfn => by
      obtain rfl : f = 6 := Option.some.inj ((show Tryz.prog.funcNamed Rows.addressScopesLastRow.func = some 6 by kernel_rfl).symm.trans hf) |>.symm
      obtain rfl : fn = Tryz.f6 := (Option.some.inj (Tryz.func6.symm.trans hfn)).symm
      exact ⟨by kernel_rfl, fun j t ht => by
        have hall : (Tryz.f6.params.toList.all fun u => !Tryz.prog.wantsStandIn u) = true := by kernel_rfl
        exact (show Tryz.prog.wantsStandIn t = false by simpa using List.all_eq_true.1 hall t (by simpa using Array.mem_of_getElem? ht))⟩)
    (by kernel_rfl)
#print axioms addressScopesLast_proved
end Go.Proofs.YtglonkenckigiaaGreatDoor
