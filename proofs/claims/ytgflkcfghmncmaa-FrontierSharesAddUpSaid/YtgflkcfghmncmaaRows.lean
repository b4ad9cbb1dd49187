/-
  No cell of these rows narrows 'for every input' (looked for: loops, veiled, ifaces, maps, wideKeys, modest, calm, conditions, laid).
  DERIVED. THE GIVEN ROWS OF THIS SEAT. 3 by the template 'for every input the law returns true; each argument reads behind the call as it read before'; 0 by the template 'total and deterministic' (their statements: YtgflkcfghmncmaaTotals.lean).
  GIVEN WITH THE SEED: the statements are not yours to turn. If you find one false, say at which input.
  Laid BY PROGRAM, IN A SANDBOX (cutbox-rows.mjs): the forced cells as the released guide's own fill.sh prints them over the translation 7e8fd952f52b77b5… (all of the seat's roots in one cut). By AI agents, Wed Nov 11 2026. No macro, syntax, notation, axiom, sorry.
-/
import Derived.Test.YtgflkcfghmncmaaChecked
import GoSem.Claim
import GoSem.ClaimJoined
import GoSem.ClaimMapViews
import Derived.JoinedTies
import Derived.KernelRfl
namespace Go.Proofs.Ytgflkcfghmncmaa
/- THE CELL 'sum', in the pinned program and in every row, IS THE sha256 OF THE DUMP (.gsa) THAT YtgflkcfghmncmaaProg.lean LOADS. Nothing in Lean hashes anything: it is a label: what it is worth is what the hold of that sum in a sandbox is worth. -/
noncomputable def Try.pinned : Pinned := { name := "ytgflkcfghmncmaa", sum := "7e8fd952f52b77b5c5be08bedb32f423faec1fa17cf308ea9499b83ac39eee12", checked := Try.checked }
namespace Rows
def none {H : Type} : Left H := { results := [], args := [] }

/-- 'ephemeralaw5.FrontierPeriodsMatchSpec': WHATEVER THE INPUT: true; the input reads as it did. -/
def frontierPeriodsMatchSpecSpec : ChangeSpec := { name := "frontierPeriodsMatchSpec", fn := fun _ => fun
  | [d1, d2, d3] => { results := [.lit (.bool true)], args := [d1, d2, d3] }
  | _ => none }
def frontierPeriodsMatchSpecRow : OpenClaim := { program := "ytgflkcfghmncmaa", sum := "7e8fd952f52b77b5c5be08bedb32f423faec1fa17cf308ea9499b83ac39eee12", func := "ephemera/ephemeralaw5.FrontierPeriodsMatchSpec", spec := "frontierPeriodsMatchSpec", apart := false }
def FrontierPeriodsMatchSpecSaid : Prop := frontierPeriodsMatchSpecRow.holds Try.pinned (OpenSpec.ofChange frontierPeriodsMatchSpecSpec)

/-- ITS FALSE NEIGHBOUR: 'it returns false'. Refute it at one input. -/
def frontierPeriodsMatchSpecWrong : ChangeSpec := { name := "frontierPeriodsMatchSpec", fn := fun _ => fun
  | [d1, d2, d3] => { results := [.lit (.bool false)], args := [d1, d2, d3] }
  | _ => none }
def FrontierPeriodsMatchSpecWrongFalsely : Prop := frontierPeriodsMatchSpecRow.holds Try.pinned (OpenSpec.ofChange frontierPeriodsMatchSpecWrong)

/-- 'ephemeralaw5.FrontierPeriodsAreWithinBounds': WHATEVER THE INPUT: true; the input reads as it did. -/
def frontierPeriodsAreWithinBoundsSpec : ChangeSpec := { name := "frontierPeriodsAreWithinBounds", fn := fun _ => fun
  | [d1, d2, d3] => { results := [.lit (.bool true)], args := [d1, d2, d3] }
  | _ => none }
def frontierPeriodsAreWithinBoundsRow : OpenClaim := { program := "ytgflkcfghmncmaa", sum := "7e8fd952f52b77b5c5be08bedb32f423faec1fa17cf308ea9499b83ac39eee12", func := "ephemera/ephemeralaw5.FrontierPeriodsAreWithinBounds", spec := "frontierPeriodsAreWithinBounds", apart := false }
def FrontierPeriodsAreWithinBoundsSaid : Prop := frontierPeriodsAreWithinBoundsRow.holds Try.pinned (OpenSpec.ofChange frontierPeriodsAreWithinBoundsSpec)

/-- ITS FALSE NEIGHBOUR: 'it returns false'. Refute it at one input. -/
def frontierPeriodsAreWithinBoundsWrong : ChangeSpec := { name := "frontierPeriodsAreWithinBounds", fn := fun _ => fun
  | [d1, d2, d3] => { results := [.lit (.bool false)], args := [d1, d2, d3] }
  | _ => none }
def FrontierPeriodsAreWithinBoundsWrongFalsely : Prop := frontierPeriodsAreWithinBoundsRow.holds Try.pinned (OpenSpec.ofChange frontierPeriodsAreWithinBoundsWrong)

/-- 'ephemeralaw5.FrontierSharesAddUp': WHATEVER THE INPUT: true; the input reads as it did. -/
def frontierSharesAddUpSpec : ChangeSpec := { name := "frontierSharesAddUp", fn := fun _ => fun
  | [d1, d2] => { results := [.lit (.bool true)], args := [d1, d2] }
  | _ => none }
def frontierSharesAddUpRow : OpenClaim := { program := "ytgflkcfghmncmaa", sum := "7e8fd952f52b77b5c5be08bedb32f423faec1fa17cf308ea9499b83ac39eee12", func := "ephemera/ephemeralaw5.FrontierSharesAddUp", spec := "frontierSharesAddUp", apart := false }
def FrontierSharesAddUpSaid : Prop := frontierSharesAddUpRow.holds Try.pinned (OpenSpec.ofChange frontierSharesAddUpSpec)

/-- ITS FALSE NEIGHBOUR: 'it returns false'. Refute it at one input. -/
def frontierSharesAddUpWrong : ChangeSpec := { name := "frontierSharesAddUp", fn := fun _ => fun
  | [d1, d2] => { results := [.lit (.bool false)], args := [d1, d2] }
  | _ => none }
def FrontierSharesAddUpWrongFalsely : Prop := frontierSharesAddUpRow.holds Try.pinned (OpenSpec.ofChange frontierSharesAddUpWrong)

/- THE SECOND FORM. 'bulk': how many values and letters a reading holds, each counted each time it is reached (what is shared counts as often as it is met; a slice's spare places count too). A statement '..UptoSaid' is the law's where the arguments, and the package variables that the reading takes, are together of bulk at most 1048576: NARROWER than '..Said'. Prove '..Said' where nothing that the law and all that it calls make is longer than what came in: it says more and counts as full. Else prove '..UptoSaid'. A law counts once. -/
mutual
def uptoBulk {H : Type} : DataW H → Nat
  | .lit (.string bytes) => bytes.length + 1
  | .lit _ => 1
  | .nil => 1
  | .ptr d => uptoBulk d + 1
  | .slice elems spare => uptoBulkAll elems + uptoBulkAll spare + 1
  | .agg parts => uptoBulkAll parts + 1
  | .iface _ d => uptoBulk d + 1
  | .map entries => uptoBulkEntries entries + 1
  | .held _ => 1
def uptoBulkAll {H : Type} : List (DataW H) → Nat
  | [] => 0
  | d :: r => uptoBulk d + uptoBulkAll r
def uptoBulkEntries {H : Type} : List (Lit × DataW H) → Nat
  | [] => 0
  | x :: r => uptoBulkEntry x + uptoBulkEntries r
def uptoBulkEntry {H : Type} : Lit × DataW H → Nat
  | (.string bytes, d) => bytes.length + uptoBulk d + 1
  | (_, d) => uptoBulk d + 1
 end
def uptoSmall : (H : Type) → List (DataW H) → Bool := fun _ ds => decide (uptoBulkAll ds ≤ 1048576)
def OpenSpec.upto (s : _root_.Go.ChangeSpec) : _root_.Go.OpenSpec := { _root_.Go.OpenSpec.ofChange s with cond := some uptoSmall }

/-- 'ephemeralaw5.FrontierPeriodsMatchSpec', WHERE WHAT IT READS IS OF BULK AT MOST 1048576: true; the input reads as it did. -/
def frontierPeriodsMatchSpecUptoRow : OpenClaim := { program := "ytgflkcfghmncmaa", sum := "7e8fd952f52b77b5c5be08bedb32f423faec1fa17cf308ea9499b83ac39eee12", func := "ephemera/ephemeralaw5.FrontierPeriodsMatchSpec", spec := "frontierPeriodsMatchSpec", apart := false, narrowed := true }
def FrontierPeriodsMatchSpecUptoSaid : Prop := frontierPeriodsMatchSpecUptoRow.holds Try.pinned (OpenSpec.upto frontierPeriodsMatchSpecSpec)

/-- 'ephemeralaw5.FrontierPeriodsAreWithinBounds', WHERE WHAT IT READS IS OF BULK AT MOST 1048576: true; the input reads as it did. -/
def frontierPeriodsAreWithinBoundsUptoRow : OpenClaim := { program := "ytgflkcfghmncmaa", sum := "7e8fd952f52b77b5c5be08bedb32f423faec1fa17cf308ea9499b83ac39eee12", func := "ephemera/ephemeralaw5.FrontierPeriodsAreWithinBounds", spec := "frontierPeriodsAreWithinBounds", apart := false, narrowed := true }
def FrontierPeriodsAreWithinBoundsUptoSaid : Prop := frontierPeriodsAreWithinBoundsUptoRow.holds Try.pinned (OpenSpec.upto frontierPeriodsAreWithinBoundsSpec)

/-- 'ephemeralaw5.FrontierSharesAddUp', WHERE WHAT IT READS IS OF BULK AT MOST 1048576: true; the input reads as it did. -/
def frontierSharesAddUpUptoRow : OpenClaim := { program := "ytgflkcfghmncmaa", sum := "7e8fd952f52b77b5c5be08bedb32f423faec1fa17cf308ea9499b83ac39eee12", func := "ephemera/ephemeralaw5.FrontierSharesAddUp", spec := "frontierSharesAddUp", apart := false, narrowed := true }
def FrontierSharesAddUpUptoSaid : Prop := frontierSharesAddUpUptoRow.holds Try.pinned (OpenSpec.upto frontierSharesAddUpSpec)

end Rows
end Go.Proofs.Ytgflkcfghmncmaa
