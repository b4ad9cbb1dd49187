/-
  DERIVED. GIVEN WITH THE SEED: THE CARDS: each row of YtglonkenckigiaaGreatDoorRows.lean that lists a variable, with what it lists TIED to the program's text (the seventh form; the later family's looks); each row that meets fmt, with fmt's text TOLD by the authors' own Lean function (tested against real Go, not proved from fmt's source: count such statements apart). THE CARD IS WHAT COUNTS. Prove the row's statement (the work); the ties are given (YtglonkenckigiaaGreatDoorTie.lean); close each card by the builder's one call (the guide's Derived/Test/ToyasCard.lean, 'card_holds'). Laid BY PROGRAM, IN A SANDBOX (cutbox-door.mjs). By AI agents, Wed Nov 11 2026. No macro, syntax, notation, axiom, sorry.
-/
import Derived.Test.YtglonkenckigiaaGreatDoorRows
import GoSem.ClaimSeven
namespace Go.Proofs.YtglonkenckigiaaGreatDoor
namespace Rows

/-- THE TIED CARD OF 'ephemeralaw1.AddressRelativesMatchSpec'. -/
def addressRelativesMatchSpecCard : Claim7 := { stood := { row := addressRelativesMatchSpecRow, standIns := [], harness := (true, "5c6e2062e81356f4429174b946c2ce0bf109bcea8d75c214ef3a85c750bee0aa"), looks := true }, kinds := [], alts := [], laidByText := true, laidKinds := [.data, .data, .data, .data, .sentinel, .sentinel, .pinned], laidTests := true, laidLooks := .later }
def AddressRelativesMatchSpecCardSaid : Prop := Claim7.holds Tryz.pinned (.plain (OpenSpec.ofChange addressRelativesMatchSpecSpec)) addressRelativesMatchSpecCard

/-- THE TIED CARD OF 'ephemeralaw1.AddressChecksMatchSpec'. -/
def addressChecksMatchSpecCard : Claim7 := { stood := { row := addressChecksMatchSpecRow, standIns := [], harness := (true, "5c6e2062e81356f4429174b946c2ce0bf109bcea8d75c214ef3a85c750bee0aa"), looks := true }, kinds := [], alts := [], laidByText := true, laidKinds := [.data, .data, .data, .data, .sentinel, .sentinel, .pinned], laidTests := true, laidLooks := .later }
def AddressChecksMatchSpecCardSaid : Prop := Claim7.holds Tryz.pinned (.plain (OpenSpec.ofChange addressChecksMatchSpecSpec)) addressChecksMatchSpecCard

/-- THE TIED CARD OF 'ephemeralaw1.AddressResolvesMatchSpec'. -/
def addressResolvesMatchSpecCard : Claim7 := { stood := { row := addressResolvesMatchSpecRow, standIns := [], harness := (true, "5c6e2062e81356f4429174b946c2ce0bf109bcea8d75c214ef3a85c750bee0aa"), looks := true }, kinds := [], alts := [], laidByText := true, laidKinds := [.data, .data, .data, .data, .sentinel, .sentinel, .pinned], laidTests := true, laidLooks := .later }
def AddressResolvesMatchSpecCardSaid : Prop := Claim7.holds Tryz.pinned (.plain (OpenSpec.ofChange addressResolvesMatchSpecSpec)) addressResolvesMatchSpecCard

/-- THE TIED CARD OF 'ephemeralaw1.AddressScopesLast'. -/
def addressScopesLastCard : Claim7 := { stood := { row := addressScopesLastRow, standIns := [], harness := (true, "5c6e2062e81356f4429174b946c2ce0bf109bcea8d75c214ef3a85c750bee0aa"), looks := true }, kinds := [], alts := [], laidByText := true, laidKinds := [.data, .pinned], laidTests := true, laidLooks := .later }
def AddressScopesLastCardSaid : Prop := Claim7.holds Tryz.pinned (.plain (OpenSpec.ofChange addressScopesLastSpec)) addressScopesLastCard

/-- THE TIED CARD OF 'ephemeralaw1.AddressKeysComeBack'. -/
def addressKeysComeBackCard : Claim7 := { stood := { row := addressKeysComeBackRow, standIns := [], harness := (true, "5c6e2062e81356f4429174b946c2ce0bf109bcea8d75c214ef3a85c750bee0aa"), looks := true }, kinds := [], alts := [], laidByText := true, laidKinds := [.data, .pinned], laidTests := true, laidLooks := .later }
def AddressKeysComeBackCardSaid : Prop := Claim7.holds Tryz.pinned (.plain (OpenSpec.ofChange addressKeysComeBackSpec)) addressKeysComeBackCard

/-- THE TIED CARD OF 'ephemeralaw1.AddressSamenessIsCoarser'. -/
def addressSamenessIsCoarserCard : Claim7 := { stood := { row := addressSamenessIsCoarserRow, standIns := [], harness := (true, "5c6e2062e81356f4429174b946c2ce0bf109bcea8d75c214ef3a85c750bee0aa"), looks := true }, kinds := [], alts := [], laidByText := true, laidKinds := [.data, .pinned], laidTests := true, laidLooks := .later }
def AddressSamenessIsCoarserCardSaid : Prop := Claim7.holds Tryz.pinned (.plain (OpenSpec.ofChange addressSamenessIsCoarserSpec)) addressSamenessIsCoarserCard

/-- THE TIED CARD OF 'ephemeralaw1.AddressOfKeysMatchSpec'. -/
def addressOfKeysMatchSpecCard : Claim7 := { stood := { row := addressOfKeysMatchSpecRow, standIns := [], harness := (true, "5c6e2062e81356f4429174b946c2ce0bf109bcea8d75c214ef3a85c750bee0aa"), looks := true }, kinds := [], alts := [], laidByText := true, laidKinds := [.data, .data, .data, .data, .sentinel, .sentinel, .pinned], laidTests := true, laidLooks := .later }
def AddressOfKeysMatchSpecCardSaid : Prop := Claim7.holds Tryz.pinned (.plain (OpenSpec.ofChange addressOfKeysMatchSpecSpec)) addressOfKeysMatchSpecCard

/-- THE TIED CARD OF 'ephemeralaw1.AddressScopesMatchSpec'. -/
def addressScopesMatchSpecCard : Claim7 := { stood := { row := addressScopesMatchSpecRow, standIns := [], harness := (true, "5c6e2062e81356f4429174b946c2ce0bf109bcea8d75c214ef3a85c750bee0aa"), looks := true }, kinds := [], alts := [], laidByText := true, laidKinds := [.data, .data, .data, .data, .sentinel, .sentinel, .pinned], laidTests := true, laidLooks := .later }
def AddressScopesMatchSpecCardSaid : Prop := Claim7.holds Tryz.pinned (.plain (OpenSpec.ofChange addressScopesMatchSpecSpec)) addressScopesMatchSpecCard

/-- THE TIED CARD OF 'ephemeralaw1.AddressKeysMatchSpec'. -/
def addressKeysMatchSpecCard : Claim7 := { stood := { row := addressKeysMatchSpecRow, standIns := [], harness := (true, "5c6e2062e81356f4429174b946c2ce0bf109bcea8d75c214ef3a85c750bee0aa"), looks := true }, kinds := [], alts := [], laidByText := true, laidKinds := [.data, .data, .data, .data, .sentinel, .sentinel, .pinned], laidTests := true, laidLooks := .later }
def AddressKeysMatchSpecCardSaid : Prop := Claim7.holds Tryz.pinned (.plain (OpenSpec.ofChange addressKeysMatchSpecSpec)) addressKeysMatchSpecCard

/-- THE SECOND FORM's CARD OF 'ephemeralaw1.AddressRelativesMatchSpec'. -/
def addressRelativesMatchSpecUptoCard : Claim7 := { stood := { row := addressRelativesMatchSpecUptoRow, standIns := [], harness := (true, "5c6e2062e81356f4429174b946c2ce0bf109bcea8d75c214ef3a85c750bee0aa"), looks := true }, kinds := [], alts := [], laidByText := true, laidKinds := [.data, .data, .data, .data, .sentinel, .sentinel, .pinned], laidTests := true, laidLooks := .later }
def AddressRelativesMatchSpecUptoCardSaid : Prop := Claim7.holds Tryz.pinned (.plain (OpenSpec.upto addressRelativesMatchSpecSpec)) addressRelativesMatchSpecUptoCard

/-- THE SECOND FORM's CARD OF 'ephemeralaw1.AddressChecksMatchSpec'. -/
def addressChecksMatchSpecUptoCard : Claim7 := { stood := { row := addressChecksMatchSpecUptoRow, standIns := [], harness := (true, "5c6e2062e81356f4429174b946c2ce0bf109bcea8d75c214ef3a85c750bee0aa"), looks := true }, kinds := [], alts := [], laidByText := true, laidKinds := [.data, .data, .data, .data, .sentinel, .sentinel, .pinned], laidTests := true, laidLooks := .later }
def AddressChecksMatchSpecUptoCardSaid : Prop := Claim7.holds Tryz.pinned (.plain (OpenSpec.upto addressChecksMatchSpecSpec)) addressChecksMatchSpecUptoCard

/-- THE SECOND FORM's CARD OF 'ephemeralaw1.AddressResolvesMatchSpec'. -/
def addressResolvesMatchSpecUptoCard : Claim7 := { stood := { row := addressResolvesMatchSpecUptoRow, standIns := [], harness := (true, "5c6e2062e81356f4429174b946c2ce0bf109bcea8d75c214ef3a85c750bee0aa"), looks := true }, kinds := [], alts := [], laidByText := true, laidKinds := [.data, .data, .data, .data, .sentinel, .sentinel, .pinned], laidTests := true, laidLooks := .later }
def AddressResolvesMatchSpecUptoCardSaid : Prop := Claim7.holds Tryz.pinned (.plain (OpenSpec.upto addressResolvesMatchSpecSpec)) addressResolvesMatchSpecUptoCard

/-- THE SECOND FORM's CARD OF 'ephemeralaw1.AddressScopesLast'. -/
def addressScopesLastUptoCard : Claim7 := { stood := { row := addressScopesLastUptoRow, standIns := [], harness := (true, "5c6e2062e81356f4429174b946c2ce0bf109bcea8d75c214ef3a85c750bee0aa"), looks := true }, kinds := [], alts := [], laidByText := true, laidKinds := [.data, .pinned], laidTests := true, laidLooks := .later }
def AddressScopesLastUptoCardSaid : Prop := Claim7.holds Tryz.pinned (.plain (OpenSpec.upto addressScopesLastSpec)) addressScopesLastUptoCard

/-- THE SECOND FORM's CARD OF 'ephemeralaw1.AddressKeysComeBack'. -/
def addressKeysComeBackUptoCard : Claim7 := { stood := { row := addressKeysComeBackUptoRow, standIns := [], harness := (true, "5c6e2062e81356f4429174b946c2ce0bf109bcea8d75c214ef3a85c750bee0aa"), looks := true }, kinds := [], alts := [], laidByText := true, laidKinds := [.data, .pinned], laidTests := true, laidLooks := .later }
def AddressKeysComeBackUptoCardSaid : Prop := Claim7.holds Tryz.pinned (.plain (OpenSpec.upto addressKeysComeBackSpec)) addressKeysComeBackUptoCard

/-- THE SECOND FORM's CARD OF 'ephemeralaw1.AddressSamenessIsCoarser'. -/
def addressSamenessIsCoarserUptoCard : Claim7 := { stood := { row := addressSamenessIsCoarserUptoRow, standIns := [], harness := (true, "5c6e2062e81356f4429174b946c2ce0bf109bcea8d75c214ef3a85c750bee0aa"), looks := true }, kinds := [], alts := [], laidByText := true, laidKinds := [.data, .pinned], laidTests := true, laidLooks := .later }
def AddressSamenessIsCoarserUptoCardSaid : Prop := Claim7.holds Tryz.pinned (.plain (OpenSpec.upto addressSamenessIsCoarserSpec)) addressSamenessIsCoarserUptoCard

/-- THE SECOND FORM's CARD OF 'ephemeralaw1.AddressOfKeysMatchSpec'. -/
def addressOfKeysMatchSpecUptoCard : Claim7 := { stood := { row := addressOfKeysMatchSpecUptoRow, standIns := [], harness := (true, "5c6e2062e81356f4429174b946c2ce0bf109bcea8d75c214ef3a85c750bee0aa"), looks := true }, kinds := [], alts := [], laidByText := true, laidKinds := [.data, .data, .data, .data, .sentinel, .sentinel, .pinned], laidTests := true, laidLooks := .later }
def AddressOfKeysMatchSpecUptoCardSaid : Prop := Claim7.holds Tryz.pinned (.plain (OpenSpec.upto addressOfKeysMatchSpecSpec)) addressOfKeysMatchSpecUptoCard

/-- THE SECOND FORM's CARD OF 'ephemeralaw1.AddressScopesMatchSpec'. -/
def addressScopesMatchSpecUptoCard : Claim7 := { stood := { row := addressScopesMatchSpecUptoRow, standIns := [], harness := (true, "5c6e2062e81356f4429174b946c2ce0bf109bcea8d75c214ef3a85c750bee0aa"), looks := true }, kinds := [], alts := [], laidByText := true, laidKinds := [.data, .data, .data, .data, .sentinel, .sentinel, .pinned], laidTests := true, laidLooks := .later }
def AddressScopesMatchSpecUptoCardSaid : Prop := Claim7.holds Tryz.pinned (.plain (OpenSpec.upto addressScopesMatchSpecSpec)) addressScopesMatchSpecUptoCard

/-- THE SECOND FORM's CARD OF 'ephemeralaw1.AddressKeysMatchSpec'. -/
def addressKeysMatchSpecUptoCard : Claim7 := { stood := { row := addressKeysMatchSpecUptoRow, standIns := [], harness := (true, "5c6e2062e81356f4429174b946c2ce0bf109bcea8d75c214ef3a85c750bee0aa"), looks := true }, kinds := [], alts := [], laidByText := true, laidKinds := [.data, .data, .data, .data, .sentinel, .sentinel, .pinned], laidTests := true, laidLooks := .later }
def AddressKeysMatchSpecUptoCardSaid : Prop := Claim7.holds Tryz.pinned (.plain (OpenSpec.upto addressKeysMatchSpecSpec)) addressKeysMatchSpecUptoCard
end Rows
end Go.Proofs.YtglonkenckigiaaGreatDoor
