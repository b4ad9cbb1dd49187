/-
  DERIVED. GIVEN WITH THE SEED: THE CARDS: each row of YtkeipkblcljpbaaDoorRows.lean that lists a variable, with what it lists TIED to the program's text (the seventh form; the later family's looks); each row that meets fmt, with fmt's text TOLD by the authors' own Lean function (tested against real Go, not proved from fmt's source: count such statements apart). THE CARD IS WHAT COUNTS. Prove the row's statement (the work); the ties are given (YtkeipkblcljpbaaDoorTie.lean); close each card by the builder's one call (the guide's Derived/Test/ToyasCard.lean, 'card_holds'). Laid BY PROGRAM, IN A SANDBOX (cutbox-door.mjs). By AI agents, Wed Nov 11 2026. No macro, syntax, notation, axiom, sorry.
-/
import Derived.Test.YtkeipkblcljpbaaDoorRows
import GoSem.ClaimSeven
namespace Go.Proofs.YtkeipkblcljpbaaDoor
namespace Rows

/-- THE TIED CARD OF 'ephemeralaw1.AddressTextsComeBack'. -/
def addressTextsComeBackCard : Claim7 := { stood := { row := addressTextsComeBackRow, standIns := [], harness := (true, "7b0a5b62d80730d36f56367cd1aa54e4ebe3b2d2567ba0aa230d13bcd7e5a09d"), looks := true }, kinds := [], alts := [], laidByText := true, laidKinds := [.data, .pinned], laidTests := true, laidLooks := .later }
def AddressTextsComeBackCardSaid : Prop := Claim7.holds Tryd.pinned (.plain (OpenSpec.ofChange addressTextsComeBackSpec)) addressTextsComeBackCard

/-- THE TIED CARD OF 'ephemeralaw1.AddressDomainsMatchSpec'. -/
def addressDomainsMatchSpecCard : Claim7 := { stood := { row := addressDomainsMatchSpecRow, standIns := [], harness := (true, "7b0a5b62d80730d36f56367cd1aa54e4ebe3b2d2567ba0aa230d13bcd7e5a09d"), looks := true }, kinds := [], alts := [], laidByText := true, laidKinds := [.data, .pinned], laidTests := true, laidLooks := .later }
def AddressDomainsMatchSpecCardSaid : Prop := Claim7.holds Tryd.pinned (.plain (OpenSpec.ofChange addressDomainsMatchSpecSpec)) addressDomainsMatchSpecCard

/-- THE TIED CARD OF 'ephemeralaw1.AddressDomainsEnd'. -/
def addressDomainsEndCard : Claim7 := { stood := { row := addressDomainsEndRow, standIns := [], harness := (true, "7b0a5b62d80730d36f56367cd1aa54e4ebe3b2d2567ba0aa230d13bcd7e5a09d"), looks := true }, kinds := [], alts := [], laidByText := true, laidKinds := [.data, .pinned], laidTests := true, laidLooks := .later }
def AddressDomainsEndCardSaid : Prop := Claim7.holds Tryd.pinned (.plain (OpenSpec.ofChange addressDomainsEndSpec)) addressDomainsEndCard

/-- THE TIED CARD OF 'ephemeralaw1.AddressNormalsStay'. -/
def addressNormalsStayCard : Claim7 := { stood := { row := addressNormalsStayRow, standIns := [], harness := (true, "7b0a5b62d80730d36f56367cd1aa54e4ebe3b2d2567ba0aa230d13bcd7e5a09d"), looks := true }, kinds := [], alts := [], laidByText := true, laidKinds := [.data, .pinned], laidTests := true, laidLooks := .later }
def AddressNormalsStayCardSaid : Prop := Claim7.holds Tryd.pinned (.plain (OpenSpec.ofChange addressNormalsStaySpec)) addressNormalsStayCard

/-- THE TIED CARD OF 'ephemeralaw1.AddressRelativesResolve'. -/
def addressRelativesResolveCard : Claim7 := { stood := { row := addressRelativesResolveRow, standIns := [], harness := (true, "7b0a5b62d80730d36f56367cd1aa54e4ebe3b2d2567ba0aa230d13bcd7e5a09d"), looks := true }, kinds := [], alts := [], laidByText := true, laidKinds := [.data, .pinned], laidTests := true, laidLooks := .later }
def AddressRelativesResolveCardSaid : Prop := Claim7.holds Tryd.pinned (.plain (OpenSpec.ofChange addressRelativesResolveSpec)) addressRelativesResolveCard

/-- THE TIED CARD OF 'ephemeralaw1.AddressReadsMatchSpec'. -/
def addressReadsMatchSpecCard : Claim7 := { stood := { row := addressReadsMatchSpecRow, standIns := [], harness := (true, "7b0a5b62d80730d36f56367cd1aa54e4ebe3b2d2567ba0aa230d13bcd7e5a09d"), looks := true }, kinds := [], alts := [], laidByText := true, laidKinds := [.data, .data, .data, .data, .sentinel, .sentinel, .pinned], laidTests := true, laidLooks := .later }
def AddressReadsMatchSpecCardSaid : Prop := Claim7.holds Tryd.pinned (.plain (OpenSpec.ofChange addressReadsMatchSpecSpec)) addressReadsMatchSpecCard

/-- THE SECOND FORM's CARD OF 'ephemeralaw1.AddressTextsComeBack'. -/
def addressTextsComeBackUptoCard : Claim7 := { stood := { row := addressTextsComeBackUptoRow, standIns := [], harness := (true, "7b0a5b62d80730d36f56367cd1aa54e4ebe3b2d2567ba0aa230d13bcd7e5a09d"), looks := true }, kinds := [], alts := [], laidByText := true, laidKinds := [.data, .pinned], laidTests := true, laidLooks := .later }
def AddressTextsComeBackUptoCardSaid : Prop := Claim7.holds Tryd.pinned (.plain (OpenSpec.upto addressTextsComeBackSpec)) addressTextsComeBackUptoCard

/-- THE SECOND FORM's CARD OF 'ephemeralaw1.AddressDomainsMatchSpec'. -/
def addressDomainsMatchSpecUptoCard : Claim7 := { stood := { row := addressDomainsMatchSpecUptoRow, standIns := [], harness := (true, "7b0a5b62d80730d36f56367cd1aa54e4ebe3b2d2567ba0aa230d13bcd7e5a09d"), looks := true }, kinds := [], alts := [], laidByText := true, laidKinds := [.data, .pinned], laidTests := true, laidLooks := .later }
def AddressDomainsMatchSpecUptoCardSaid : Prop := Claim7.holds Tryd.pinned (.plain (OpenSpec.upto addressDomainsMatchSpecSpec)) addressDomainsMatchSpecUptoCard

/-- THE SECOND FORM's CARD OF 'ephemeralaw1.AddressDomainsEnd'. -/
def addressDomainsEndUptoCard : Claim7 := { stood := { row := addressDomainsEndUptoRow, standIns := [], harness := (true, "7b0a5b62d80730d36f56367cd1aa54e4ebe3b2d2567ba0aa230d13bcd7e5a09d"), looks := true }, kinds := [], alts := [], laidByText := true, laidKinds := [.data, .pinned], laidTests := true, laidLooks := .later }
def AddressDomainsEndUptoCardSaid : Prop := Claim7.holds Tryd.pinned (.plain (OpenSpec.upto addressDomainsEndSpec)) addressDomainsEndUptoCard

/-- THE SECOND FORM's CARD OF 'ephemeralaw1.AddressNormalsStay'. -/
def addressNormalsStayUptoCard : Claim7 := { stood := { row := addressNormalsStayUptoRow, standIns := [], harness := (true, "7b0a5b62d80730d36f56367cd1aa54e4ebe3b2d2567ba0aa230d13bcd7e5a09d"), looks := true }, kinds := [], alts := [], laidByText := true, laidKinds := [.data, .pinned], laidTests := true, laidLooks := .later }
def AddressNormalsStayUptoCardSaid : Prop := Claim7.holds Tryd.pinned (.plain (OpenSpec.upto addressNormalsStaySpec)) addressNormalsStayUptoCard

/-- THE SECOND FORM's CARD OF 'ephemeralaw1.AddressRelativesResolve'. -/
def addressRelativesResolveUptoCard : Claim7 := { stood := { row := addressRelativesResolveUptoRow, standIns := [], harness := (true, "7b0a5b62d80730d36f56367cd1aa54e4ebe3b2d2567ba0aa230d13bcd7e5a09d"), looks := true }, kinds := [], alts := [], laidByText := true, laidKinds := [.data, .pinned], laidTests := true, laidLooks := .later }
def AddressRelativesResolveUptoCardSaid : Prop := Claim7.holds Tryd.pinned (.plain (OpenSpec.upto addressRelativesResolveSpec)) addressRelativesResolveUptoCard

/-- THE SECOND FORM's CARD OF 'ephemeralaw1.AddressReadsMatchSpec'. -/
def addressReadsMatchSpecUptoCard : Claim7 := { stood := { row := addressReadsMatchSpecUptoRow, standIns := [], harness := (true, "7b0a5b62d80730d36f56367cd1aa54e4ebe3b2d2567ba0aa230d13bcd7e5a09d"), looks := true }, kinds := [], alts := [], laidByText := true, laidKinds := [.data, .data, .data, .data, .sentinel, .sentinel, .pinned], laidTests := true, laidLooks := .later }
def AddressReadsMatchSpecUptoCardSaid : Prop := Claim7.holds Tryd.pinned (.plain (OpenSpec.upto addressReadsMatchSpecSpec)) addressReadsMatchSpecUptoCard
end Rows
end Go.Proofs.YtkeipkblcljpbaaDoor
