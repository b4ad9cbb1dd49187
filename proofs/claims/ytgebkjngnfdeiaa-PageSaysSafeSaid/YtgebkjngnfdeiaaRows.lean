/-
  No cell of these rows narrows 'for every input' (looked for: loops, veiled, ifaces, maps, wideKeys, modest, calm, conditions, laid).
  DERIVED. THE GIVEN ROWS OF THIS SEAT. 5 by the template 'for every input the law returns true; each argument reads behind the call as it read before'; 0 by the template 'total and deterministic' (their statements: YtgebkjngnfdeiaaTotals.lean).
  GIVEN WITH THE SEED: the statements are not yours to turn. If you find one false, say at which input.
  Laid BY PROGRAM, IN A SANDBOX (cutbox-rows.mjs): the forced cells as the released guide's own fill.sh prints them over the translation 57ddfc9e52b128b0… (all of the seat's roots in one cut). By AI agents, Wed Nov 11 2026. No macro, syntax, notation, axiom, sorry.
-/
import Derived.Test.YtgebkjngnfdeiaaChecked
import GoSem.Claim
import GoSem.ClaimJoined
import GoSem.ClaimMapViews
import Derived.JoinedTies
import Derived.KernelRfl
namespace Go.Proofs.Ytgebkjngnfdeiaa
/- THE CELL 'sum', in the pinned program and in every row, IS THE sha256 OF THE DUMP (.gsa) THAT YtgebkjngnfdeiaaProg.lean LOADS. Nothing in Lean hashes anything: it is a label: what it is worth is what the hold of that sum in a sandbox is worth. -/
noncomputable def Try.pinned : Pinned := { name := "ytgebkjngnfdeiaa", sum := "57ddfc9e52b128b04796d049c3eed683c1552180ddcd8a8671abe09cb99a9407", checked := Try.checked }
namespace Rows
def none {H : Type} : Left H := { results := [], args := [] }

/-- 'ephemeralaw3.PageSafeIsMeant': WHATEVER THE INPUT: true; the input reads as it did. -/
def pageSafeIsMeantSpec : ChangeSpec := { name := "pageSafeIsMeant", fn := fun _ => fun
  | [d] => { results := [.lit (.bool true)], args := [d] }
  | _ => none }
def pageSafeIsMeantRow : OpenClaim := { program := "ytgebkjngnfdeiaa", sum := "57ddfc9e52b128b04796d049c3eed683c1552180ddcd8a8671abe09cb99a9407", func := "ephemera/ephemeralaw3.PageSafeIsMeant", spec := "pageSafeIsMeant", inPlace := ["internal/abi.NoEscape", "internal/bytealg.IndexByteString", "internal/bytealg.IndexString"], named := ["internal/bytealg.MaxLen"], apart := false }
def PageSafeIsMeantSaid : Prop := pageSafeIsMeantRow.holds Try.pinned (OpenSpec.ofChange pageSafeIsMeantSpec)

/-- ITS FALSE NEIGHBOUR: 'it returns false'. Refute it at one input. -/
def pageSafeIsMeantWrong : ChangeSpec := { name := "pageSafeIsMeant", fn := fun _ => fun
  | [d] => { results := [.lit (.bool false)], args := [d] }
  | _ => none }
def PageSafeIsMeantWrongFalsely : Prop := pageSafeIsMeantRow.holds Try.pinned (OpenSpec.ofChange pageSafeIsMeantWrong)

/-- 'ephemeralaw3.PageTokensLieSide': WHATEVER THE INPUT: true; the input reads as it did. -/
def pageTokensLieSideSpec : ChangeSpec := { name := "pageTokensLieSide", fn := fun _ => fun
  | [d] => { results := [.lit (.bool true)], args := [d] }
  | _ => none }
def pageTokensLieSideRow : OpenClaim := { program := "ytgebkjngnfdeiaa", sum := "57ddfc9e52b128b04796d049c3eed683c1552180ddcd8a8671abe09cb99a9407", func := "ephemera/ephemeralaw3.PageTokensLieSide", spec := "pageTokensLieSide", inPlace := ["internal/bytealg.IndexByteString", "internal/bytealg.IndexString", "internal/abi.NoEscape"], unfollowed := true, recurses := true, named := ["internal/bytealg.MaxLen"], apart := false }
def PageTokensLieSideSaid : Prop := pageTokensLieSideRow.holds Try.pinned (OpenSpec.ofChange pageTokensLieSideSpec)

/-- ITS FALSE NEIGHBOUR: 'it returns false'. Refute it at one input. -/
def pageTokensLieSideWrong : ChangeSpec := { name := "pageTokensLieSide", fn := fun _ => fun
  | [d] => { results := [.lit (.bool false)], args := [d] }
  | _ => none }
def PageTokensLieSideWrongFalsely : Prop := pageTokensLieSideRow.holds Try.pinned (OpenSpec.ofChange pageTokensLieSideWrong)

/-- 'ephemeralaw3.PageTokensMatchSpec': WHATEVER THE INPUT: true; the input reads as it did. -/
def pageTokensMatchSpecSpec : ChangeSpec := { name := "pageTokensMatchSpec", fn := fun _ => fun
  | [d] => { results := [.lit (.bool true)], args := [d] }
  | _ => none }
def pageTokensMatchSpecRow : OpenClaim := { program := "ytgebkjngnfdeiaa", sum := "57ddfc9e52b128b04796d049c3eed683c1552180ddcd8a8671abe09cb99a9407", func := "ephemera/ephemeralaw3.PageTokensMatchSpec", spec := "pageTokensMatchSpec", inPlace := ["internal/bytealg.IndexByteString", "internal/bytealg.IndexString", "internal/abi.NoEscape"], unfollowed := true, recurses := true, named := ["internal/bytealg.MaxLen"], apart := false }
def PageTokensMatchSpecSaid : Prop := pageTokensMatchSpecRow.holds Try.pinned (OpenSpec.ofChange pageTokensMatchSpecSpec)

/-- ITS FALSE NEIGHBOUR: 'it returns false'. Refute it at one input. -/
def pageTokensMatchSpecWrong : ChangeSpec := { name := "pageTokensMatchSpec", fn := fun _ => fun
  | [d] => { results := [.lit (.bool false)], args := [d] }
  | _ => none }
def PageTokensMatchSpecWrongFalsely : Prop := pageTokensMatchSpecRow.holds Try.pinned (OpenSpec.ofChange pageTokensMatchSpecWrong)

/-- 'ephemeralaw3.PageSaysMatchSpec': WHATEVER THE INPUT: true; the input reads as it did. -/
def pageSaysMatchSpecSpec : ChangeSpec := { name := "pageSaysMatchSpec", fn := fun _ => fun
  | [d] => { results := [.lit (.bool true)], args := [d] }
  | _ => none }
def pageSaysMatchSpecRow : OpenClaim := { program := "ytgebkjngnfdeiaa", sum := "57ddfc9e52b128b04796d049c3eed683c1552180ddcd8a8671abe09cb99a9407", func := "ephemera/ephemeralaw3.PageSaysMatchSpec", spec := "pageSaysMatchSpec", inPlace := ["internal/bytealg.IndexByteString", "internal/bytealg.IndexString", "internal/abi.NoEscape", "internal/bytealg.MakeNoZero"], unfollowed := true, recurses := true, named := ["internal/bytealg.MaxLen"], apart := false }
def PageSaysMatchSpecSaid : Prop := pageSaysMatchSpecRow.holds Try.pinned (OpenSpec.ofChange pageSaysMatchSpecSpec)

/-- ITS FALSE NEIGHBOUR: 'it returns false'. Refute it at one input. -/
def pageSaysMatchSpecWrong : ChangeSpec := { name := "pageSaysMatchSpec", fn := fun _ => fun
  | [d] => { results := [.lit (.bool false)], args := [d] }
  | _ => none }
def PageSaysMatchSpecWrongFalsely : Prop := pageSaysMatchSpecRow.holds Try.pinned (OpenSpec.ofChange pageSaysMatchSpecWrong)

/-- 'ephemeralaw3.PageSaysSafe': WHATEVER THE INPUT: true; the input reads as it did. -/
def pageSaysSafeSpec : ChangeSpec := { name := "pageSaysSafe", fn := fun _ => fun
  | [d] => { results := [.lit (.bool true)], args := [d] }
  | _ => none }
def pageSaysSafeRow : OpenClaim := { program := "ytgebkjngnfdeiaa", sum := "57ddfc9e52b128b04796d049c3eed683c1552180ddcd8a8671abe09cb99a9407", func := "ephemera/ephemeralaw3.PageSaysSafe", spec := "pageSaysSafe", inPlace := ["internal/abi.NoEscape", "internal/bytealg.IndexByteString", "internal/bytealg.IndexString", "internal/bytealg.MakeNoZero"], unfollowed := true, recurses := true, named := ["internal/bytealg.MaxLen"], apart := false }
def PageSaysSafeSaid : Prop := pageSaysSafeRow.holds Try.pinned (OpenSpec.ofChange pageSaysSafeSpec)

/-- ITS FALSE NEIGHBOUR: 'it returns false'. Refute it at one input. -/
def pageSaysSafeWrong : ChangeSpec := { name := "pageSaysSafe", fn := fun _ => fun
  | [d] => { results := [.lit (.bool false)], args := [d] }
  | _ => none }
def PageSaysSafeWrongFalsely : Prop := pageSaysSafeRow.holds Try.pinned (OpenSpec.ofChange pageSaysSafeWrong)

/- THE SECOND FORM. 'bulk': how many values and letters a reading holds, each counted each time it is reached (what is shared counts as often as it is met; a slice's spare places count too). A statement '..UptoSaid' is the law's where the arguments, and the package variables that the reading takes, are together of bulk at most 1048576: NARROWER than '..Said'. Prove '..Said' where nothing that the law and all that it calls make is longer than what came in: it says more and counts as full. Else prove '..UptoSaid'. A law counts once. -/
mutual
def uptoBulk {H : Type} : DataW H → Nat
  | .lit (.string bytes) => bytes.length + 1
  | .lit _ => 1
  | .nil => 1
  | .ptr d => uptoBulk d + 1
  | .slice elems spare => uptoBulkAll elems + uptoBulkAll spare + 1
  | .agg parts => uptoBulkAll parts + 1
  | .iface _ d => uptoBulk d + 1
  | .map entries => uptoBulkEntries entries + 1
  | .held _ => 1
def uptoBulkAll {H : Type} : List (DataW H) → Nat
  | [] => 0
  | d :: r => uptoBulk d + uptoBulkAll r
def uptoBulkEntries {H : Type} : List (Lit × DataW H) → Nat
  | [] => 0
  | x :: r => uptoBulkEntry x + uptoBulkEntries r
def uptoBulkEntry {H : Type} : Lit × DataW H → Nat
  | (.string bytes, d) => bytes.length + uptoBulk d + 1
  | (_, d) => uptoBulk d + 1
 end
def uptoSmall : (H : Type) → List (DataW H) → Bool := fun _ ds => decide (uptoBulkAll ds ≤ 1048576)
def OpenSpec.upto (s : _root_.Go.ChangeSpec) : _root_.Go.OpenSpec := { _root_.Go.OpenSpec.ofChange s with cond := some uptoSmall }

/-- 'ephemeralaw3.PageSafeIsMeant', WHERE WHAT IT READS IS OF BULK AT MOST 1048576: true; the input reads as it did. -/
def pageSafeIsMeantUptoRow : OpenClaim := { program := "ytgebkjngnfdeiaa", sum := "57ddfc9e52b128b04796d049c3eed683c1552180ddcd8a8671abe09cb99a9407", func := "ephemera/ephemeralaw3.PageSafeIsMeant", spec := "pageSafeIsMeant", inPlace := ["internal/abi.NoEscape", "internal/bytealg.IndexByteString", "internal/bytealg.IndexString"], named := ["internal/bytealg.MaxLen"], apart := false, narrowed := true }
def PageSafeIsMeantUptoSaid : Prop := pageSafeIsMeantUptoRow.holds Try.pinned (OpenSpec.upto pageSafeIsMeantSpec)

/-- 'ephemeralaw3.PageTokensLieSide', WHERE WHAT IT READS IS OF BULK AT MOST 1048576: true; the input reads as it did. -/
def pageTokensLieSideUptoRow : OpenClaim := { program := "ytgebkjngnfdeiaa", sum := "57ddfc9e52b128b04796d049c3eed683c1552180ddcd8a8671abe09cb99a9407", func := "ephemera/ephemeralaw3.PageTokensLieSide", spec := "pageTokensLieSide", inPlace := ["internal/bytealg.IndexByteString", "internal/bytealg.IndexString", "internal/abi.NoEscape"], unfollowed := true, recurses := true, named := ["internal/bytealg.MaxLen"], apart := false, narrowed := true }
def PageTokensLieSideUptoSaid : Prop := pageTokensLieSideUptoRow.holds Try.pinned (OpenSpec.upto pageTokensLieSideSpec)

/-- 'ephemeralaw3.PageTokensMatchSpec', WHERE WHAT IT READS IS OF BULK AT MOST 1048576: true; the input reads as it did. -/
def pageTokensMatchSpecUptoRow : OpenClaim := { program := "ytgebkjngnfdeiaa", sum := "57ddfc9e52b128b04796d049c3eed683c1552180ddcd8a8671abe09cb99a9407", func := "ephemera/ephemeralaw3.PageTokensMatchSpec", spec := "pageTokensMatchSpec", inPlace := ["internal/bytealg.IndexByteString", "internal/bytealg.IndexString", "internal/abi.NoEscape"], unfollowed := true, recurses := true, named := ["internal/bytealg.MaxLen"], apart := false, narrowed := true }
def PageTokensMatchSpecUptoSaid : Prop := pageTokensMatchSpecUptoRow.holds Try.pinned (OpenSpec.upto pageTokensMatchSpecSpec)

/-- 'ephemeralaw3.PageSaysMatchSpec', WHERE WHAT IT READS IS OF BULK AT MOST 1048576: true; the input reads as it did. -/
def pageSaysMatchSpecUptoRow : OpenClaim := { program := "ytgebkjngnfdeiaa", sum := "57ddfc9e52b128b04796d049c3eed683c1552180ddcd8a8671abe09cb99a9407", func := "ephemera/ephemeralaw3.PageSaysMatchSpec", spec := "pageSaysMatchSpec", inPlace := ["internal/bytealg.IndexByteString", "internal/bytealg.IndexString", "internal/abi.NoEscape", "internal/bytealg.MakeNoZero"], unfollowed := true, recurses := true, named := ["internal/bytealg.MaxLen"], apart := false, narrowed := true }
def PageSaysMatchSpecUptoSaid : Prop := pageSaysMatchSpecUptoRow.holds Try.pinned (OpenSpec.upto pageSaysMatchSpecSpec)

/-- 'ephemeralaw3.PageSaysSafe', WHERE WHAT IT READS IS OF BULK AT MOST 1048576: true; the input reads as it did. -/
def pageSaysSafeUptoRow : OpenClaim := { program := "ytgebkjngnfdeiaa", sum := "57ddfc9e52b128b04796d049c3eed683c1552180ddcd8a8671abe09cb99a9407", func := "ephemera/ephemeralaw3.PageSaysSafe", spec := "pageSaysSafe", inPlace := ["internal/abi.NoEscape", "internal/bytealg.IndexByteString", "internal/bytealg.IndexString", "internal/bytealg.MakeNoZero"], unfollowed := true, recurses := true, named := ["internal/bytealg.MaxLen"], apart := false, narrowed := true }
def PageSaysSafeUptoSaid : Prop := pageSaysSafeUptoRow.holds Try.pinned (OpenSpec.upto pageSaysSafeSpec)

end Rows
end Go.Proofs.Ytgebkjngnfdeiaa
