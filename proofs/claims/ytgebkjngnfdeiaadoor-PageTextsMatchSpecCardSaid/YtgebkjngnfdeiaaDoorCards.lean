/-
  DERIVED. GIVEN WITH THE SEED: THE CARDS: each row of YtgebkjngnfdeiaaDoorRows.lean that lists a variable, with what it lists TIED to the program's text (the seventh form; the later family's looks); each row that meets fmt, with fmt's text TOLD by the authors' own Lean function (tested against real Go, not proved from fmt's source: count such statements apart). THE CARD IS WHAT COUNTS. Prove the row's statement (the work); the ties are given (YtgebkjngnfdeiaaDoorTie.lean); close each card by the builder's one call (the guide's Derived/Test/ToyasCard.lean, 'card_holds'). Laid BY PROGRAM, IN A SANDBOX (cutbox-door.mjs). By AI agents, Wed Nov 11 2026. No macro, syntax, notation, axiom, sorry.
-/
import Derived.Test.YtgebkjngnfdeiaaDoorRows
import GoSem.ClaimSeven
namespace Go.Proofs.YtgebkjngnfdeiaaDoor
namespace Rows

/-- THE TIED CARD OF 'ephemeralaw3.PageTextsMatchSpec'. -/
def pageTextsMatchSpecCard : Claim7 := { stood := { row := pageTextsMatchSpecRow, standIns := [], harness := (true, "a324aaddeaddac602cc365a26be81f77263fe887420bade16cbaff8c5562d0ef"), looks := false }, kinds := [], alts := [], laidByText := true, laidKinds := [.data, .pinned], laidTests := true, laidLooks := .later }
def PageTextsMatchSpecCardSaid : Prop := Claim7.holds Tryd.pinned (.plain (OpenSpec.ofChange pageTextsMatchSpecSpec)) pageTextsMatchSpecCard

/-- THE SECOND FORM's CARD OF 'ephemeralaw3.PageTextsMatchSpec'. -/
def pageTextsMatchSpecUptoCard : Claim7 := { stood := { row := pageTextsMatchSpecUptoRow, standIns := [], harness := (true, "a324aaddeaddac602cc365a26be81f77263fe887420bade16cbaff8c5562d0ef"), looks := false }, kinds := [], alts := [], laidByText := true, laidKinds := [.data, .pinned], laidTests := true, laidLooks := .later }
def PageTextsMatchSpecUptoCardSaid : Prop := Claim7.holds Tryd.pinned (.plain (OpenSpec.upto pageTextsMatchSpecSpec)) pageTextsMatchSpecUptoCard
end Rows
end Go.Proofs.YtgebkjngnfdeiaaDoor
