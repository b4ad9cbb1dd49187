/-
  DERIVED. GIVEN WITH THE SEED: THE CARDS: each row of YtpmfmjgnhdfakaaGreatDoorRows.lean that lists a variable, with what it lists TIED to the program's text (the seventh form; the later family's looks); each row that meets fmt, with fmt's text TOLD by the authors' own Lean function (tested against real Go, not proved from fmt's source: count such statements apart). THE CARD IS WHAT COUNTS. Prove the row's statement (the work); the ties are given (YtpmfmjgnhdfakaaGreatDoorTie.lean); close each card by the builder's one call (the guide's Derived/Test/ToyasCard.lean, 'card_holds'). Laid BY PROGRAM, IN A SANDBOX (cutbox-door.mjs). By AI agents, Wed Nov 11 2026. No macro, syntax, notation, axiom, sorry.
-/
import Derived.Test.YtpmfmjgnhdfakaaGreatDoorRows
import GoSem.ClaimSeven
namespace Go.Proofs.YtpmfmjgnhdfakaaGreatDoor
namespace Rows

/-- THE TIED CARD OF 'ephemeratop.TopListsFillFrontiers'. -/
def topListsFillFrontiersCard : Claim7 := { stood := { row := topListsFillFrontiersRow, standIns := [], harness := (true, "f148e3dc7d6f3e91bbc6e45f768cbb96139583e605cbf5590b668023da08f074"), looks := true }, kinds := [], alts := [], laidByText := true, laidKinds := [.data, .data, .data, .data, .sentinel, .sentinel, .pinned], laidTests := true, laidLooks := .later }
def TopListsFillFrontiersCardSaid : Prop := Claim7.holds Tryz.pinned (.plain (OpenSpec.ofChange topListsFillFrontiersSpec)) topListsFillFrontiersCard

/-- THE SECOND FORM's CARD OF 'ephemeratop.TopListsFillFrontiers'. -/
def topListsFillFrontiersUptoCard : Claim7 := { stood := { row := topListsFillFrontiersUptoRow, standIns := [], harness := (true, "f148e3dc7d6f3e91bbc6e45f768cbb96139583e605cbf5590b668023da08f074"), looks := true }, kinds := [], alts := [], laidByText := true, laidKinds := [.data, .data, .data, .data, .sentinel, .sentinel, .pinned], laidTests := true, laidLooks := .later }
def TopListsFillFrontiersUptoCardSaid : Prop := Claim7.holds Tryz.pinned (.plain (OpenSpec.upto topListsFillFrontiersSpec)) topListsFillFrontiersUptoCard
end Rows
end Go.Proofs.YtpmfmjgnhdfakaaGreatDoor
