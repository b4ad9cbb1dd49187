/-
  DERIVED. GIVEN WITH THE SEED: THE CARDS: each row of YtglonkenckigiaaDoorRows.lean that lists a variable, with what it lists TIED to the program's text (the seventh form; the later family's looks); each row that meets fmt, with fmt's text TOLD by the authors' own Lean function (tested against real Go, not proved from fmt's source: count such statements apart). THE CARD IS WHAT COUNTS. Prove the row's statement (the work); the ties are given (YtglonkenckigiaaDoorTie.lean); close each card by the builder's one call (the guide's Derived/Test/ToyasCard.lean, 'card_holds'). Laid BY PROGRAM, IN A SANDBOX (cutbox-door.mjs). By AI agents, Wed Nov 11 2026. No macro, syntax, notation, axiom, sorry.
-/
import Derived.Test.YtglonkenckigiaaDoorRows
import GoSem.ClaimSeven
namespace Go.Proofs.YtglonkenckigiaaDoor
namespace Rows

/-- THE TIED CARD OF 'ephemeralaw1.AddressNormalsStay'. -/
def addressNormalsStayCard : Claim7 := { stood := { row := addressNormalsStayRow, standIns := [], harness := (true, "1c80a185d04aa43649cb959caa7b6e69fe4dd8a197d6968457d0e746af5eb21d"), looks := false }, kinds := [], alts := [], laidByText := true, laidKinds := [.data, .pinned], laidTests := true, laidLooks := .later }
def AddressNormalsStayCardSaid : Prop := Claim7.holds Tryd.pinned (.plain (OpenSpec.ofChange addressNormalsStaySpec)) addressNormalsStayCard

/-- THE SECOND FORM's CARD OF 'ephemeralaw1.AddressNormalsStay'. -/
def addressNormalsStayUptoCard : Claim7 := { stood := { row := addressNormalsStayUptoRow, standIns := [], harness := (true, "1c80a185d04aa43649cb959caa7b6e69fe4dd8a197d6968457d0e746af5eb21d"), looks := false }, kinds := [], alts := [], laidByText := true, laidKinds := [.data, .pinned], laidTests := true, laidLooks := .later }
def AddressNormalsStayUptoCardSaid : Prop := Claim7.holds Tryd.pinned (.plain (OpenSpec.upto addressNormalsStaySpec)) addressNormalsStayUptoCard
end Rows
end Go.Proofs.YtglonkenckigiaaDoor
