/-
  ADDRESS: AddressRelativesMatchSpec: the tied card.
-/
import Derived.Test.YtglonkenckigiaaGreatDoorQR
import Derived.Test.YtglonkenckigiaaGreatDoorLwCard
import Derived.Test.YtglonkenckigiaaGreatDoorCards
import Derived.Test.YtglonkenckigiaaGreatDoorTie
import Derived.Stop.LaidErr
set_option linter.unusedSimpArgs false
set_option linter.unusedVariables false
namespace Go.Proofs.YtglonkenckigiaaGreatDoor
open Go.Lw Go.RowKit Go.ChangeShapes Go.WideShapes Go.ChangeAt
set_option maxRecDepth 100000
set_option maxHeartbeats 1000000
theorem err_laid {W : World} (h : laidMetH Tryz.prog Rows.addressRelativesMatchSpecRow.laid W) : stdErr Tryz.prog W := by
  rw [MakeChecks.laidMetH_plain _ _ _ (by kernel_rfl)] at h
  have h5 := h.tail.tail.tail.tail.tail
  intro g _ hg
  have hg2 : Tryz.prog.globalNamed "strconv.ErrSyntax" = some 1 := by kernel_rfl
  obtain rfl := Option.some.inj (hg2.symm.trans hg)
  exact err_of_laid h5 hg2 (ti := 90) (by kernel_rfl) Tryz.underlying90
theorem liftedAddressRelativesMatchSpec (os : Os) (started : os.Started) (H : Type) (enc : TypeId × Value → H) :
    ReturnsInHanded {} Tryz.checked os 3 .any (fun w args => (Rows.addressRelativesMatchSpecSpec.pre enc Tryz.prog Tryz.f3 Rows.addressRelativesMatchSpecRow.domain false w args ∧ laidMetH Tryz.prog Rows.addressRelativesMatchSpecRow.laid w) ∧ sizedMet enc Tryz.prog Tryz.f3 (OpenSpec.ofChange Rows.addressRelativesMatchSpecSpec) false w args)
      (Rows.addressRelativesMatchSpecSpec.post enc Tryz.prog Tryz.f3 false true false false) := by
  refine handed_and_shaped (C := Tryz.checked) (X := fun w _ => laidMetH Tryz.prog Rows.addressRelativesMatchSpecRow.laid w) (fun _ _ _ hh h => h.of_heap hh) own started (by kernel_rfl) Tryz.func3
    (ChangeSpec.witness_shaped (enc := enc) (C := Tryz.checked) (os := os) (X := fun w _ => laidMetH Tryz.prog Rows.addressRelativesMatchSpecRow.laid w) false (World.laidAll Tryz.prog os Rows.addressRelativesMatchSpecRow.laid) #[.agg #[.string .empty, .string .empty, .string .empty, .string .empty, .string .empty, .bool false, .string .empty, .bool false], .agg #[.string .empty, .string .empty, .string .empty, .string .empty, .string .empty, .bool false, .string .empty, .bool false]] 8 (World.laidAll_os _ _ _)
      (World.shaped_of_ZipB (by kernel_rfl) (by kernel_rfl)) (by kernel_rfl) (by kernel_rfl) (by kernel_rfl)
      (by rw [MakeChecks.laidMetH_plain _ _ _ (by kernel_rfl)]; exact laidMet_laidAll _ (by kernel_rfl) (by kernel_rfl))) ?_
  intro W base args ds gs before hval0 hW hwt hlaid hsh
  have hval : ∀ (j : Nat) t v, Tryz.f3.params[j]? = some t → args[j]? = some v → Value.okWide Tryz.prog W .any base t v := hval0
  have hW' := hW
  obtain ⟨p, q, hA0, _, _, _, _⟩ := hW
  have hA : DataW.TrodAll enc Tryz.prog W 0 (fun _ => true) true Tryz.f3.params.toList args.toList ds p := hA0
  rw [Tryz.params3] at hA hval hwt
  obtain ⟨v0, _, d0, _, p0, _, hargs, rfl, _, h0, r0⟩ := trodAll_cons hA
  obtain ⟨v1, _, d1, _, p1, _, rfl, rfl, _, h1, r1⟩ := trodAll_cons r0
  obtain ⟨rfl, rfl, _⟩ := trodAll_nil r1
  obtain rfl : args = #[v0, v1] := by cases args; simp_all
  obtain ⟨a0, c0, e0⟩ := opnA_adr H enc W base v0 d0 p0 (hval 0 _ v0 rfl rfl) h0 (wt_arg hwt (j := 0) rfl rfl)
  obtain ⟨a1, c1, e1⟩ := opnA_adr H enc W base v1 d1 p1 (hval 1 _ v1 rfl rfl) h1 (wt_arg hwt (j := 1) rfl rfl)
  exact law_contract laidOut (of_decide_eq_true (by kernel_rfl)) rfl Tryz.underlying4 rfl (fun ds hd => by
    match ds, hd with
    | [_, _], _ => rfl) hW' (std_of_shaped (by kernel_rfl) hsh (err_laid hlaid)) (ArgsL.rd (.cons e0 (.cons e1 .nil))) (relativesSpec_ok a0 a1 c0 c1)
theorem overAddressRelativesMatchSpec : Rows.addressRelativesMatchSpecRow.holds Tryz.pinned (OpenSpec.ofChange Rows.addressRelativesMatchSpecSpec) :=
  OpenClaim.holds_of_wide 3 Tryz.f3 rfl rfl rfl rfl rfl rfl rfl ⟨rfl, rfl, rfl, rfl, rfl⟩ rfl rfl rfl rfl rfl (by kernel_rfl) Tryz.func3 (by kernel_rfl)
    (of_decide_eq_true (by kernel_rfl)) (by unfold Func.isWrapper; first | (rw [if_pos (by decide +kernel)]; kernel_rfl) | (rw [if_neg (by decide +kernel)]; exact ⟨rfl, rfl⟩))
    (fun os started H enc _ => liftedAddressRelativesMatchSpec os started H enc)

/-- The given statement. -/
theorem addressRelativesMatchSpec_proved : Rows.AddressRelativesMatchSpecCardSaid :=
  Claim7.holds_tied_plain_at .later [] Rows.addressRelativesMatchSpecCard.laidKinds true Rows.addressRelativesMatchSpecCard.stood.harness Rows.addressRelativesMatchSpecCard.stood.looks overAddressRelativesMatchSpec (fun _ h => by cases h) (by kernel_rfl) (fun _ h => by cases h) addressRelativesMatchSpec_row_tie rfl ⟨rfl, rfl⟩ (by kernel_rfl) rfl
    (fun f fn hf hfn => by
      obtain rfl : f = 3 := Option.some.inj ((show Tryz.prog.funcNamed Rows.addressRelativesMatchSpecRow.func = some 3 by kernel_rfl).symm.trans hf) |>.symm
      obtain rfl : fn = Tryz.f3 := (Option.some.inj (Tryz.func3.symm.trans hfn)).symm
      exact ⟨by kernel_rfl, fun j t ht => by
        have hall : (Tryz.f3.params.toList.all fun u => !Tryz.prog.wantsStandIn u) = true := by kernel_rfl
        exact (show Tryz.prog.wantsStandIn t = false by simpa using List.all_eq_true.1 hall t (by simpa using Array.mem_of_getElem? ht))⟩)
    (by kernel_rfl)
#print axioms addressRelativesMatchSpec_proved
end Go.Proofs.YtglonkenckigiaaGreatDoor
