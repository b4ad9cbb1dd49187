/-
  ADDRESS: AddressRelativesResolve: the tied card.
-/
import Derived.Test.YtkeipkblcljpbaaDoorAdO
import Derived.Test.YtkeipkblcljpbaaDoorLwCard
import Derived.Test.YtkeipkblcljpbaaDoorCards
import Derived.Test.YtkeipkblcljpbaaDoorTie
set_option linter.unusedSimpArgs false
set_option linter.unusedVariables false
namespace Go.Proofs.YtkeipkblcljpbaaDoor
open Go.Lw Go.RowKit Go.ChangeShapes Go.WideShapes Go.ChangeAt
set_option maxRecDepth 100000
set_option maxHeartbeats 1000000
theorem liftedAddressRelativesResolve (os : Os) (started : os.Started) (H : Type) (enc : TypeId × Value → H) :
    ReturnsInHanded {} Tryd.checked os 7 .any (fun w args => (Rows.addressRelativesResolveSpec.pre enc Tryd.prog Tryd.f7 Rows.addressRelativesResolveRow.domain false w args ∧ laidMetH Tryd.prog Rows.addressRelativesResolveRow.laid w) ∧ sizedMet enc Tryd.prog Tryd.f7 (OpenSpec.ofChange Rows.addressRelativesResolveSpec) false w args)
      (Rows.addressRelativesResolveSpec.post enc Tryd.prog Tryd.f7 false true false false) := by
  refine handed_and_shaped (C := Tryd.checked) (X := fun w _ => laidMetH Tryd.prog Rows.addressRelativesResolveRow.laid w) (fun _ _ _ hh h => h.of_heap hh) own started (by kernel_rfl) Tryd.func7
    (ChangeSpec.witness_shaped (enc := enc) (C := Tryd.checked) (os := os) (X := fun w _ => laidMetH Tryd.prog Rows.addressRelativesResolveRow.laid w) false (World.laidAll Tryd.prog os Rows.addressRelativesResolveRow.laid) #[.agg #[.string .empty, .string .empty, .string .empty, .string .empty, .string .empty, .bool false, .string .empty, .bool false], .agg #[.string .empty, .string .empty, .string .empty, .string .empty, .string .empty, .bool false, .string .empty, .bool false]] 8 (World.laidAll_os _ _ _)
      (World.shaped_of_ZipB (by kernel_rfl) (by kernel_rfl)) (by kernel_rfl) (by kernel_rfl) (by kernel_rfl)
      (by rw [MakeChecks.laidMetH_plain _ _ _ (by kernel_rfl)]; exact laidMet_laidAll _ (by kernel_rfl) (by kernel_rfl))) ?_
  intro W base args ds gs before hval0 hW hwt _ hsh
  have hval : ∀ (j : Nat) t v, Tryd.f7.params[j]? = some t → args[j]? = some v → Value.okWide Tryd.prog W .any base t v := hval0
  have hW' := hW
  obtain ⟨p, q, hA0, _, _, _, _⟩ := hW
  have hA : DataW.TrodAll enc Tryd.prog W 0 (fun _ => true) true Tryd.f7.params.toList args.toList ds p := hA0
  rw [Tryd.params7] at hA hval hwt
  obtain ⟨v0, _, d0, _, p0, _, hargs, rfl, _, h0, r0⟩ := trodAll_cons hA
  obtain ⟨v1, _, d1, _, p1, _, rfl, rfl, _, h1, r1⟩ := trodAll_cons r0
  obtain ⟨rfl, rfl, _⟩ := trodAll_nil r1
  obtain rfl : args = #[v0, v1] := by cases args; simp_all
  obtain ⟨a0, c0, e0⟩ := opnA_adr H enc W base v0 d0 p0 (hval 0 _ v0 rfl rfl) h0 (wt_arg hwt (j := 0) rfl rfl)
  obtain ⟨a1, c1, e1⟩ := opnA_adr H enc W base v1 d1 p1 (hval 1 _ v1 rfl rfl) h1 (wt_arg hwt (j := 1) rfl rfl)
  exact law_contract laidOut (of_decide_eq_true (by kernel_rfl)) rfl Tryd.underlying4 rfl (fun ds hd => by
    match ds, hd with
    | [_, _], _ => rfl) hW' (std_of_shaped (by kernel_rfl) hsh) (ArgsL.rd (.cons e0 (.cons e1 .nil))) (relResolve_ok a0 a1 c0 c1)
theorem overAddressRelativesResolve : Rows.addressRelativesResolveRow.holds Tryd.pinned (OpenSpec.ofChange Rows.addressRelativesResolveSpec) :=
  OpenClaim.holds_of_wide 7 Tryd.f7 rfl rfl rfl rfl rfl rfl rfl ⟨rfl, rfl, rfl, rfl, rfl⟩ rfl rfl rfl rfl rfl (by kernel_rfl) Tryd.func7 (by kernel_rfl)
    (of_decide_eq_true (by kernel_rfl)) (by unfold Func.isWrapper; first | (rw [if_pos (by decide +kernel)]; kernel_rfl) | (rw [if_neg (by decide +kernel)]; exact ⟨rfl, rfl⟩))
    (fun os started H enc _ => liftedAddressRelativesResolve os started H enc)

/-- The given statement. -/
theorem addressRelativesResolve_proved : Rows.AddressRelativesResolveCardSaid :=
  Claim7.holds_tied_plain_at .later [] Rows.addressRelativesResolveCard.laidKinds true Rows.addressRelativesResolveCard.stood.harness Rows.addressRelativesResolveCard.stood.looks overAddressRelativesResolve (fun _ h => by cases h) (by kernel_rfl) (fun _ h => by cases h) addressRelativesResolve_row_tie rfl ⟨rfl, rfl⟩ (by kernel_rfl) rfl
    (fun f fn hf hfn => by
      obtain rfl : f = 7 := Option.some.inj ((show Tryd.prog.funcNamed Rows.addressRelativesResolveRow.func = some 7 by kernel_rfl).symm.trans hf) |>.symm
      obtain rfl : fn = Tryd.f7 := (Option.some.inj (Tryd.func7.symm.trans hfn)).symm
      exact ⟨by kernel_rfl, fun j t ht => by
        have hall : (Tryd.f7.params.toList.all fun u => !Tryd.prog.wantsStandIn u) = true := by kernel_rfl
        exact (show Tryd.prog.wantsStandIn t = false by simpa using List.all_eq_true.1 hall t (by simpa using Array.mem_of_getElem? ht))⟩)
    (by kernel_rfl)
#print axioms addressRelativesResolve_proved
end Go.Proofs.YtkeipkblcljpbaaDoor
