/-
  ADDRESS: AddressReadsMatchSpec: the tied card.
-/
import Derived.Test.YtkeipkblcljpbaaDoorR1Gz
import Derived.Test.YtkeipkblcljpbaaDoorLwCard
import Derived.Test.YtkeipkblcljpbaaDoorCards
import Derived.Test.YtkeipkblcljpbaaDoorTie
set_option linter.unusedSimpArgs false
set_option linter.unusedVariables false
namespace Go.Proofs.YtkeipkblcljpbaaDoor
open Go.Lw Go.RowKit Go.ChangeShapes Go.WideShapes Go.ChangeAt
set_option maxRecDepth 100000
set_option maxHeartbeats 1000000
theorem liftedAddressReadsMatchSpec (os : Os) (started : os.Started) (H : Type) (enc : TypeId × Value → H) :
    ReturnsInHanded {} Tryd.checked os 8 .any (fun w args => (Rows.addressReadsMatchSpecSpec.pre enc Tryd.prog Tryd.f8 Rows.addressReadsMatchSpecRow.domain false w args ∧ laidMetH Tryd.prog Rows.addressReadsMatchSpecRow.laid w) ∧ sizedMet enc Tryd.prog Tryd.f8 (OpenSpec.ofChange Rows.addressReadsMatchSpecSpec) false w args)
      (Rows.addressReadsMatchSpecSpec.post enc Tryd.prog Tryd.f8 false true false false) := by
  refine handed_and_shaped (C := Tryd.checked) (X := fun w _ => laidMetH Tryd.prog Rows.addressReadsMatchSpecRow.laid w) (fun _ _ _ hh h => h.of_heap hh) own started (by kernel_rfl) Tryd.func8
    (ChangeSpec.witness_shaped (enc := enc) (C := Tryd.checked) (os := os) (X := fun w _ => laidMetH Tryd.prog Rows.addressReadsMatchSpecRow.laid w) false (World.laidAll Tryd.prog os Rows.addressReadsMatchSpecRow.laid) #[.string .empty] 8 (World.laidAll_os _ _ _)
      (World.shaped_of_ZipB (by kernel_rfl) (by kernel_rfl)) (by kernel_rfl) (by kernel_rfl) (by kernel_rfl)
      (by rw [MakeChecks.laidMetH_plain _ _ _ (by kernel_rfl)]; exact laidMet_laidAll _ (by kernel_rfl) (by kernel_rfl))) ?_
  intro W base args ds gs before hval0 hW hwt _ hsh
  have hval : ∀ (j : Nat) t v, Tryd.f8.params[j]? = some t → args[j]? = some v → Value.okWide Tryd.prog W .any base t v := hval0
  have hW' := hW
  obtain ⟨p, q, hA0, _, _, _, _⟩ := hW
  have hA : DataW.TrodAll enc Tryd.prog W 0 (fun _ => true) true Tryd.f8.params.toList args.toList ds p := hA0
  rw [Tryd.params8] at hA hval hwt
  obtain ⟨v0, _, d0, _, p0, _, hargs, rfl, _, h0, r0⟩ := trodAll_cons hA
  obtain ⟨rfl, rfl, _⟩ := trodAll_nil r0
  obtain rfl : args = #[v0] := by cases args; simp_all
  obtain ⟨a0, c0, e0⟩ := opnA_s H enc W base v0 d0 p0 (hval 0 _ v0 rfl rfl) h0 (wt_arg hwt (j := 0) rfl rfl)
  exact law_contract laidOut (of_decide_eq_true (by kernel_rfl)) rfl Tryd.underlying4 rfl (fun ds hd => by
    match ds, hd with
    | [_], _ => rfl) hW' (std_of_shaped (by kernel_rfl) hsh) (ArgsL.rd (.cons e0 .nil)) (readsSpec_ok a0 c0)
theorem overAddressReadsMatchSpec : Rows.addressReadsMatchSpecRow.holds Tryd.pinned (OpenSpec.ofChange Rows.addressReadsMatchSpecSpec) :=
  OpenClaim.holds_of_wide 8 Tryd.f8 rfl rfl rfl rfl rfl rfl rfl ⟨rfl, rfl, rfl, rfl, rfl⟩ rfl rfl rfl rfl rfl (by kernel_rfl) Tryd.func8 (by kernel_rfl)
    (of_decide_eq_true (by kernel_rfl)) (by unfold Func.isWrapper; first | (rw [if_pos (by decide +kernel)]; kernel_rfl) | (rw [if_neg (by decide +kernel)]; exact ⟨rfl, rfl⟩))
    (fun os started H enc _ => liftedAddressReadsMatchSpec os started H enc)

/-- The given statement. -/
theorem addressReadsMatchSpec_proved : Rows.AddressReadsMatchSpecCardSaid :=
  Claim7.holds_tied_plain_at .later [] Rows.addressReadsMatchSpecCard.laidKinds true Rows.addressReadsMatchSpecCard.stood.harness Rows.addressReadsMatchSpecCard.stood.looks overAddressReadsMatchSpec (fun _ h => by cases h) (by kernel_rfl) (fun _ h => by cases h) addressReadsMatchSpec_row_tie rfl ⟨rfl, rfl⟩ (by kernel_rfl) rfl
    (fun f fn hf hfn => by
      obtain rfl : f = 8 := Option.some.inj ((show Tryd.prog.funcNamed Rows.addressReadsMatchSpecRow.func = some 8 by kernel_rfl).symm.trans hf) |>.symm
      obtain rfl : fn = Tryd.f8 := (Option.some.inj (Tryd.func8.symm.trans hfn)).symm
      exact ⟨by kernel_rfl, fun j t ht => by
        have hall : (Tryd.f8.params.toList.all fun u => !Tryd.prog.wantsStandIn u) = true := by kernel_rfl
        exact (show Tryd.prog.wantsStandIn t = false by simpa using List.all_eq_true.1 hall t (by simpa using Array.mem_of_getElem? ht))⟩)
    (by kernel_rfl)
#print axioms addressReadsMatchSpec_proved
end Go.Proofs.YtkeipkblcljpbaaDoor
