/-
  DERIVED. GIVEN WITH THE SEED: THE CARDS: each row of YtdjfgcjlnfnfhaaGreatDoorRows.lean that lists a variable, with what it lists TIED to the program's text (the seventh form; the later family's looks); each row that meets fmt, with fmt's text TOLD by the authors' own Lean function (tested against real Go, not proved from fmt's source: count such statements apart). THE CARD IS WHAT COUNTS. Prove the row's statement (the work); the ties are given (YtdjfgcjlnfnfhaaGreatDoorTie.lean); close each card by the builder's one call (the guide's Derived/Test/ToyasCard.lean, 'card_holds'). Laid BY PROGRAM, IN A SANDBOX (cutbox-door.mjs). By AI agents, Wed Nov 11 2026. No macro, syntax, notation, axiom, sorry.
-/
import Derived.Test.YtdjfgcjlnfnfhaaGreatDoorRows
import GoSem.ClaimSeven
namespace Go.Proofs.YtdjfgcjlnfnfhaaGreatDoor
namespace Rows

/-- THE TIED CARD OF 'ephemeratop.TopEmbargoEnds'. -/
def topEmbargoEndsCard : Claim7 := { stood := { row := topEmbargoEndsRow, standIns := [], harness := (true, "575020367e39f032d5be2df3fa716a0398b0ee7880dae529c4c26186db86838b"), looks := true }, kinds := [], alts := [], laidByText := true, laidKinds := [.data, .data, .data, .data, .sentinel, .sentinel, .pinned], laidTests := true, laidLooks := .later }
def TopEmbargoEndsCardSaid : Prop := Claim7.holds Tryz.pinned (.plain (OpenSpec.ofChange topEmbargoEndsSpec)) topEmbargoEndsCard

/-- THE SECOND FORM's CARD OF 'ephemeratop.TopEmbargoEnds'. -/
def topEmbargoEndsUptoCard : Claim7 := { stood := { row := topEmbargoEndsUptoRow, standIns := [], harness := (true, "575020367e39f032d5be2df3fa716a0398b0ee7880dae529c4c26186db86838b"), looks := true }, kinds := [], alts := [], laidByText := true, laidKinds := [.data, .data, .data, .data, .sentinel, .sentinel, .pinned], laidTests := true, laidLooks := .later }
def TopEmbargoEndsUptoCardSaid : Prop := Claim7.holds Tryz.pinned (.plain (OpenSpec.upto topEmbargoEndsSpec)) topEmbargoEndsUptoCard
end Rows
end Go.Proofs.YtdjfgcjlnfnfhaaGreatDoor
