/-
  DERIVED. GIVEN WITH THE SEED: THE CARDS: each row of YtjbabjfmcganpaaGreatDoorRows.lean that lists a variable, with what it lists TIED to the program's text (the seventh form; the later family's looks); each row that meets fmt, with fmt's text TOLD by the authors' own Lean function (tested against real Go, not proved from fmt's source: count such statements apart). THE CARD IS WHAT COUNTS. Prove the row's statement (the work); the ties are given (YtjbabjfmcganpaaGreatDoorTie.lean); close each card by the builder's one call (the guide's Derived/Test/ToyasCard.lean, 'card_holds'). Laid BY PROGRAM, IN A SANDBOX (cutbox-door.mjs). By AI agents, Wed Nov 11 2026. No macro, syntax, notation, axiom, sorry.
-/
import Derived.Test.YtjbabjfmcganpaaGreatDoorRows
import GoSem.ClaimSeven
namespace Go.Proofs.YtjbabjfmcganpaaGreatDoor
namespace Rows

/-- THE TIED CARD OF 'ephemeralaw3.PageLinksStand'. -/
def pageLinksStandCard : Claim7 := { stood := { row := pageLinksStandRow, standIns := [], harness := (true, "d6afac881b5094613866acd6d58be08ba52282accad518f63928a73f22962d3c"), looks := false }, kinds := [], alts := [], laidByText := true, laidKinds := [.data, .pinned], laidTests := true, laidLooks := .later }
def PageLinksStandCardSaid : Prop := Claim7.holds Tryz.pinned (.plain (OpenSpec.ofChange pageLinksStandSpec)) pageLinksStandCard

/-- THE TIED CARD OF 'ephemeralaw3.PageTurnsNone'. -/
def pageTurnsNoneCard : Claim7 := { stood := { row := pageTurnsNoneRow, standIns := [], harness := (true, "d6afac881b5094613866acd6d58be08ba52282accad518f63928a73f22962d3c"), looks := false }, kinds := [], alts := [], laidByText := true, laidKinds := [.data, .pinned], laidTests := true, laidLooks := .later }
def PageTurnsNoneCardSaid : Prop := Claim7.holds Tryz.pinned (.plain (OpenSpec.ofChange pageTurnsNoneSpec)) pageTurnsNoneCard

/-- THE SECOND FORM's CARD OF 'ephemeralaw3.PageLinksStand'. -/
def pageLinksStandUptoCard : Claim7 := { stood := { row := pageLinksStandUptoRow, standIns := [], harness := (true, "d6afac881b5094613866acd6d58be08ba52282accad518f63928a73f22962d3c"), looks := false }, kinds := [], alts := [], laidByText := true, laidKinds := [.data, .pinned], laidTests := true, laidLooks := .later }
def PageLinksStandUptoCardSaid : Prop := Claim7.holds Tryz.pinned (.plain (OpenSpec.upto pageLinksStandSpec)) pageLinksStandUptoCard

/-- THE SECOND FORM's CARD OF 'ephemeralaw3.PageTurnsNone'. -/
def pageTurnsNoneUptoCard : Claim7 := { stood := { row := pageTurnsNoneUptoRow, standIns := [], harness := (true, "d6afac881b5094613866acd6d58be08ba52282accad518f63928a73f22962d3c"), looks := false }, kinds := [], alts := [], laidByText := true, laidKinds := [.data, .pinned], laidTests := true, laidLooks := .later }
def PageTurnsNoneUptoCardSaid : Prop := Claim7.holds Tryz.pinned (.plain (OpenSpec.upto pageTurnsNoneSpec)) pageTurnsNoneUptoCard
end Rows
end Go.Proofs.YtjbabjfmcganpaaGreatDoor
