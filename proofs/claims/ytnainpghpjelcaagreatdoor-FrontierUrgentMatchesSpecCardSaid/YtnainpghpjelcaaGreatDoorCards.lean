/-
  DERIVED. GIVEN WITH THE SEED: THE CARDS: each row of YtnainpghpjelcaaGreatDoorRows.lean that lists a variable, with what it lists TIED to the program's text (the seventh form; the later family's looks); each row that meets fmt, with fmt's text TOLD by the authors' own Lean function (tested against real Go, not proved from fmt's source: count such statements apart). THE CARD IS WHAT COUNTS. Prove the row's statement (the work); the ties are given (YtnainpghpjelcaaGreatDoorTie.lean); close each card by the builder's one call (the guide's Derived/Test/ToyasCard.lean, 'card_holds'). Laid BY PROGRAM, IN A SANDBOX (cutbox-door.mjs). By AI agents, Wed Nov 11 2026. No macro, syntax, notation, axiom, sorry.
-/
import Derived.Test.YtnainpghpjelcaaGreatDoorRows
import GoSem.ClaimSeven
namespace Go.Proofs.YtnainpghpjelcaaGreatDoor
namespace Rows

/-- THE TIED CARD OF 'ephemeralaw5.FrontierWaitIsTheFirst'. -/
def frontierWaitIsTheFirstCard : Claim7 := { stood := { row := frontierWaitIsTheFirstRow, standIns := [], harness := (true, "0dd273891b1c3c04bbb9e63ed891b33fb52a13fed58e7fa1db0636306366bb5a"), looks := true }, kinds := [], alts := [], laidByText := true, laidKinds := [.data, .pinned], laidTests := true, laidLooks := .later }
def FrontierWaitIsTheFirstCardSaid : Prop := Claim7.holds Tryz.pinned (.plain (OpenSpec.ofChange frontierWaitIsTheFirstSpec)) frontierWaitIsTheFirstCard

/-- THE TIED CARD OF 'ephemeralaw5.FrontierAddsInAnyOrder'. -/
def frontierAddsInAnyOrderCard : Claim7 := { stood := { row := frontierAddsInAnyOrderRow, standIns := [], harness := (true, "0dd273891b1c3c04bbb9e63ed891b33fb52a13fed58e7fa1db0636306366bb5a"), looks := true }, kinds := [], alts := [], laidByText := true, laidKinds := [.data, .pinned], laidTests := true, laidLooks := .later }
def FrontierAddsInAnyOrderCardSaid : Prop := Claim7.holds Tryz.pinned (.plain (OpenSpec.ofChange frontierAddsInAnyOrderSpec)) frontierAddsInAnyOrderCard

/-- THE TIED CARD OF 'ephemeralaw5.FrontierTrapsMatchSpec'. -/
def frontierTrapsMatchSpecCard : Claim7 := { stood := { row := frontierTrapsMatchSpecRow, standIns := [], harness := (true, "0dd273891b1c3c04bbb9e63ed891b33fb52a13fed58e7fa1db0636306366bb5a"), looks := true }, kinds := [], alts := [], laidByText := true, laidKinds := [.data, .data, .data, .data, .sentinel, .sentinel, .pinned], laidTests := true, laidLooks := .later }
def FrontierTrapsMatchSpecCardSaid : Prop := Claim7.holds Tryz.pinned (.plain (OpenSpec.ofChange frontierTrapsMatchSpecSpec)) frontierTrapsMatchSpecCard

/-- THE TIED CARD OF 'ephemeralaw5.FrontierSharesMatchSpec'. -/
def frontierSharesMatchSpecCard : Claim7 := { stood := { row := frontierSharesMatchSpecRow, standIns := [], harness := (true, "0dd273891b1c3c04bbb9e63ed891b33fb52a13fed58e7fa1db0636306366bb5a"), looks := true }, kinds := [], alts := [], laidByText := true, laidKinds := [.data, .data, .data, .data, .sentinel, .sentinel, .pinned], laidTests := true, laidLooks := .later }
def FrontierSharesMatchSpecCardSaid : Prop := Claim7.holds Tryz.pinned (.plain (OpenSpec.ofChange frontierSharesMatchSpecSpec)) frontierSharesMatchSpecCard

/-- THE TIED CARD OF 'ephemeralaw5.FrontierReadsMatchSpec'. -/
def frontierReadsMatchSpecCard : Claim7 := { stood := { row := frontierReadsMatchSpecRow, standIns := [], harness := (true, "0dd273891b1c3c04bbb9e63ed891b33fb52a13fed58e7fa1db0636306366bb5a"), looks := true }, kinds := [], alts := [], laidByText := true, laidKinds := [.data, .data, .data, .data, .sentinel, .sentinel, .pinned], laidTests := true, laidLooks := .later }
def FrontierReadsMatchSpecCardSaid : Prop := Claim7.holds Tryz.pinned (.plain (OpenSpec.ofChange frontierReadsMatchSpecSpec)) frontierReadsMatchSpecCard

/-- THE TIED CARD OF 'ephemeralaw5.FrontierTextsMatchSpec'. -/
def frontierTextsMatchSpecCard : Claim7 := { stood := { row := frontierTextsMatchSpecRow, standIns := [], harness := (true, "0dd273891b1c3c04bbb9e63ed891b33fb52a13fed58e7fa1db0636306366bb5a"), looks := true }, kinds := [], alts := [], laidByText := true, laidKinds := [.data, .data, .data, .data, .sentinel, .sentinel, .pinned], laidTests := true, laidLooks := .later }
def FrontierTextsMatchSpecCardSaid : Prop := Claim7.holds Tryz.pinned (.plain (OpenSpec.ofChange frontierTextsMatchSpecSpec)) frontierTextsMatchSpecCard

/-- THE TIED CARD OF 'ephemeralaw5.FrontierNextMatchesSpec'. -/
def frontierNextMatchesSpecCard : Claim7 := { stood := { row := frontierNextMatchesSpecRow, standIns := [], harness := (true, "0dd273891b1c3c04bbb9e63ed891b33fb52a13fed58e7fa1db0636306366bb5a"), looks := true }, kinds := [], alts := [], laidByText := true, laidKinds := [.data, .data, .data, .data, .sentinel, .sentinel, .pinned], laidTests := true, laidLooks := .later }
def FrontierNextMatchesSpecCardSaid : Prop := Claim7.holds Tryz.pinned (.plain (OpenSpec.ofChange frontierNextMatchesSpecSpec)) frontierNextMatchesSpecCard

/-- THE TIED CARD OF 'ephemeralaw5.FrontierUrgentMatchesSpec'. -/
def frontierUrgentMatchesSpecCard : Claim7 := { stood := { row := frontierUrgentMatchesSpecRow, standIns := [], harness := (true, "0dd273891b1c3c04bbb9e63ed891b33fb52a13fed58e7fa1db0636306366bb5a"), looks := true }, kinds := [], alts := [], laidByText := true, laidKinds := [.data, .data, .data, .data, .sentinel, .sentinel, .pinned], laidTests := true, laidLooks := .later }
def FrontierUrgentMatchesSpecCardSaid : Prop := Claim7.holds Tryz.pinned (.plain (OpenSpec.ofChange frontierUrgentMatchesSpecSpec)) frontierUrgentMatchesSpecCard

/-- THE TIED CARD OF 'ephemeralaw5.FrontierAddsMatchSpec'. -/
def frontierAddsMatchSpecCard : Claim7 := { stood := { row := frontierAddsMatchSpecRow, standIns := [], harness := (true, "0dd273891b1c3c04bbb9e63ed891b33fb52a13fed58e7fa1db0636306366bb5a"), looks := true }, kinds := [], alts := [], laidByText := true, laidKinds := [.data, .data, .data, .data, .sentinel, .sentinel, .pinned], laidTests := true, laidLooks := .later }
def FrontierAddsMatchSpecCardSaid : Prop := Claim7.holds Tryz.pinned (.plain (OpenSpec.ofChange frontierAddsMatchSpecSpec)) frontierAddsMatchSpecCard

/-- THE TIED CARD OF 'ephemeralaw5.FrontierTakesMatchSpec'. -/
def frontierTakesMatchSpecCard : Claim7 := { stood := { row := frontierTakesMatchSpecRow, standIns := [], harness := (true, "0dd273891b1c3c04bbb9e63ed891b33fb52a13fed58e7fa1db0636306366bb5a"), looks := true }, kinds := [], alts := [], laidByText := true, laidKinds := [.data, .data, .data, .data, .sentinel, .sentinel, .pinned], laidTests := true, laidLooks := .later }
def FrontierTakesMatchSpecCardSaid : Prop := Claim7.holds Tryz.pinned (.plain (OpenSpec.ofChange frontierTakesMatchSpecSpec)) frontierTakesMatchSpecCard

/-- THE TIED CARD OF 'ephemeralaw5.FrontierIsPolite'. -/
def frontierIsPoliteCard : Claim7 := { stood := { row := frontierIsPoliteRow, standIns := [], harness := (true, "0dd273891b1c3c04bbb9e63ed891b33fb52a13fed58e7fa1db0636306366bb5a"), looks := true }, kinds := [], alts := [], laidByText := true, laidKinds := [.data, .data, .data, .data, .sentinel, .sentinel, .pinned], laidTests := true, laidLooks := .later }
def FrontierIsPoliteCardSaid : Prop := Claim7.holds Tryz.pinned (.plain (OpenSpec.ofChange frontierIsPoliteSpec)) frontierIsPoliteCard

/-- THE SECOND FORM's CARD OF 'ephemeralaw5.FrontierWaitIsTheFirst'. -/
def frontierWaitIsTheFirstUptoCard : Claim7 := { stood := { row := frontierWaitIsTheFirstUptoRow, standIns := [], harness := (true, "0dd273891b1c3c04bbb9e63ed891b33fb52a13fed58e7fa1db0636306366bb5a"), looks := true }, kinds := [], alts := [], laidByText := true, laidKinds := [.data, .pinned], laidTests := true, laidLooks := .later }
def FrontierWaitIsTheFirstUptoCardSaid : Prop := Claim7.holds Tryz.pinned (.plain (OpenSpec.upto frontierWaitIsTheFirstSpec)) frontierWaitIsTheFirstUptoCard

/-- THE SECOND FORM's CARD OF 'ephemeralaw5.FrontierAddsInAnyOrder'. -/
def frontierAddsInAnyOrderUptoCard : Claim7 := { stood := { row := frontierAddsInAnyOrderUptoRow, standIns := [], harness := (true, "0dd273891b1c3c04bbb9e63ed891b33fb52a13fed58e7fa1db0636306366bb5a"), looks := true }, kinds := [], alts := [], laidByText := true, laidKinds := [.data, .pinned], laidTests := true, laidLooks := .later }
def FrontierAddsInAnyOrderUptoCardSaid : Prop := Claim7.holds Tryz.pinned (.plain (OpenSpec.upto frontierAddsInAnyOrderSpec)) frontierAddsInAnyOrderUptoCard

/-- THE SECOND FORM's CARD OF 'ephemeralaw5.FrontierTrapsMatchSpec'. -/
def frontierTrapsMatchSpecUptoCard : Claim7 := { stood := { row := frontierTrapsMatchSpecUptoRow, standIns := [], harness := (true, "0dd273891b1c3c04bbb9e63ed891b33fb52a13fed58e7fa1db0636306366bb5a"), looks := true }, kinds := [], alts := [], laidByText := true, laidKinds := [.data, .data, .data, .data, .sentinel, .sentinel, .pinned], laidTests := true, laidLooks := .later }
def FrontierTrapsMatchSpecUptoCardSaid : Prop := Claim7.holds Tryz.pinned (.plain (OpenSpec.upto frontierTrapsMatchSpecSpec)) frontierTrapsMatchSpecUptoCard

/-- THE SECOND FORM's CARD OF 'ephemeralaw5.FrontierSharesMatchSpec'. -/
def frontierSharesMatchSpecUptoCard : Claim7 := { stood := { row := frontierSharesMatchSpecUptoRow, standIns := [], harness := (true, "0dd273891b1c3c04bbb9e63ed891b33fb52a13fed58e7fa1db0636306366bb5a"), looks := true }, kinds := [], alts := [], laidByText := true, laidKinds := [.data, .data, .data, .data, .sentinel, .sentinel, .pinned], laidTests := true, laidLooks := .later }
def FrontierSharesMatchSpecUptoCardSaid : Prop := Claim7.holds Tryz.pinned (.plain (OpenSpec.upto frontierSharesMatchSpecSpec)) frontierSharesMatchSpecUptoCard

/-- THE SECOND FORM's CARD OF 'ephemeralaw5.FrontierReadsMatchSpec'. -/
def frontierReadsMatchSpecUptoCard : Claim7 := { stood := { row := frontierReadsMatchSpecUptoRow, standIns := [], harness := (true, "0dd273891b1c3c04bbb9e63ed891b33fb52a13fed58e7fa1db0636306366bb5a"), looks := true }, kinds := [], alts := [], laidByText := true, laidKinds := [.data, .data, .data, .data, .sentinel, .sentinel, .pinned], laidTests := true, laidLooks := .later }
def FrontierReadsMatchSpecUptoCardSaid : Prop := Claim7.holds Tryz.pinned (.plain (OpenSpec.upto frontierReadsMatchSpecSpec)) frontierReadsMatchSpecUptoCard

/-- THE SECOND FORM's CARD OF 'ephemeralaw5.FrontierTextsMatchSpec'. -/
def frontierTextsMatchSpecUptoCard : Claim7 := { stood := { row := frontierTextsMatchSpecUptoRow, standIns := [], harness := (true, "0dd273891b1c3c04bbb9e63ed891b33fb52a13fed58e7fa1db0636306366bb5a"), looks := true }, kinds := [], alts := [], laidByText := true, laidKinds := [.data, .data, .data, .data, .sentinel, .sentinel, .pinned], laidTests := true, laidLooks := .later }
def FrontierTextsMatchSpecUptoCardSaid : Prop := Claim7.holds Tryz.pinned (.plain (OpenSpec.upto frontierTextsMatchSpecSpec)) frontierTextsMatchSpecUptoCard

/-- THE SECOND FORM's CARD OF 'ephemeralaw5.FrontierNextMatchesSpec'. -/
def frontierNextMatchesSpecUptoCard : Claim7 := { stood := { row := frontierNextMatchesSpecUptoRow, standIns := [], harness := (true, "0dd273891b1c3c04bbb9e63ed891b33fb52a13fed58e7fa1db0636306366bb5a"), looks := true }, kinds := [], alts := [], laidByText := true, laidKinds := [.data, .data, .data, .data, .sentinel, .sentinel, .pinned], laidTests := true, laidLooks := .later }
def FrontierNextMatchesSpecUptoCardSaid : Prop := Claim7.holds Tryz.pinned (.plain (OpenSpec.upto frontierNextMatchesSpecSpec)) frontierNextMatchesSpecUptoCard

/-- THE SECOND FORM's CARD OF 'ephemeralaw5.FrontierUrgentMatchesSpec'. -/
def frontierUrgentMatchesSpecUptoCard : Claim7 := { stood := { row := frontierUrgentMatchesSpecUptoRow, standIns := [], harness := (true, "0dd273891b1c3c04bbb9e63ed891b33fb52a13fed58e7fa1db0636306366bb5a"), looks := true }, kinds := [], alts := [], laidByText := true, laidKinds := [.data, .data, .data, .data, .sentinel, .sentinel, .pinned], laidTests := true, laidLooks := .later }
def FrontierUrgentMatchesSpecUptoCardSaid : Prop := Claim7.holds Tryz.pinned (.plain (OpenSpec.upto frontierUrgentMatchesSpecSpec)) frontierUrgentMatchesSpecUptoCard

/-- THE SECOND FORM's CARD OF 'ephemeralaw5.FrontierAddsMatchSpec'. -/
def frontierAddsMatchSpecUptoCard : Claim7 := { stood := { row := frontierAddsMatchSpecUptoRow, standIns := [], harness := (true, "0dd273891b1c3c04bbb9e63ed891b33fb52a13fed58e7fa1db0636306366bb5a"), looks := true }, kinds := [], alts := [], laidByText := true, laidKinds := [.data, .data, .data, .data, .sentinel, .sentinel, .pinned], laidTests := true, laidLooks := .later }
def FrontierAddsMatchSpecUptoCardSaid : Prop := Claim7.holds Tryz.pinned (.plain (OpenSpec.upto frontierAddsMatchSpecSpec)) frontierAddsMatchSpecUptoCard

/-- THE SECOND FORM's CARD OF 'ephemeralaw5.FrontierTakesMatchSpec'. -/
def frontierTakesMatchSpecUptoCard : Claim7 := { stood := { row := frontierTakesMatchSpecUptoRow, standIns := [], harness := (true, "0dd273891b1c3c04bbb9e63ed891b33fb52a13fed58e7fa1db0636306366bb5a"), looks := true }, kinds := [], alts := [], laidByText := true, laidKinds := [.data, .data, .data, .data, .sentinel, .sentinel, .pinned], laidTests := true, laidLooks := .later }
def FrontierTakesMatchSpecUptoCardSaid : Prop := Claim7.holds Tryz.pinned (.plain (OpenSpec.upto frontierTakesMatchSpecSpec)) frontierTakesMatchSpecUptoCard

/-- THE SECOND FORM's CARD OF 'ephemeralaw5.FrontierIsPolite'. -/
def frontierIsPoliteUptoCard : Claim7 := { stood := { row := frontierIsPoliteUptoRow, standIns := [], harness := (true, "0dd273891b1c3c04bbb9e63ed891b33fb52a13fed58e7fa1db0636306366bb5a"), looks := true }, kinds := [], alts := [], laidByText := true, laidKinds := [.data, .data, .data, .data, .sentinel, .sentinel, .pinned], laidTests := true, laidLooks := .later }
def FrontierIsPoliteUptoCardSaid : Prop := Claim7.holds Tryz.pinned (.plain (OpenSpec.upto frontierIsPoliteSpec)) frontierIsPoliteUptoCard
end Rows
end Go.Proofs.YtnainpghpjelcaaGreatDoor
