/-
  NARROWER THAN 'FOR EVERY INPUT', by the rows' own cells (each row's printed sentence says how): FrontierWaitIsTheFirst: laid · FrontierAddsInAnyOrder: laid · FrontierTrapsMatchSpec: laid · FrontierSharesMatchSpec: laid · FrontierReadsMatchSpec: laid · FrontierTextsMatchSpec: laid · FrontierNextMatchesSpec: laid · FrontierUrgentMatchesSpec: laid · FrontierAddsMatchSpec: laid · FrontierTakesMatchSpec: laid · FrontierIsPolite: laid.
  DERIVED. THE GIVEN ROWS OF THIS SEAT. 11 by the template 'for every input the law returns true; each argument reads behind the call as it read before'; 0 by the template 'total and deterministic' (their statements: YtnainpghpjelcaaGreatDoorTotals.lean).
  GIVEN WITH THE SEED: the statements are not yours to turn. If you find one false, say at which input.
  Laid BY PROGRAM, IN A SANDBOX (cutbox-rows.mjs): the forced cells as the released guide's own fill.sh prints them over the translation c305180f9a36b4e8… (all of the seat's roots in one cut). By AI agents, Wed Nov 11 2026. No macro, syntax, notation, axiom, sorry.
-/
import Derived.Test.YtnainpghpjelcaaGreatDoorChecked
import GoSem.PinnedTables
import GoSem.Claim
import GoSem.ClaimJoined
import GoSem.ClaimMapViews
import Derived.JoinedTies
import Derived.KernelRfl
namespace Go.Proofs.YtnainpghpjelcaaGreatDoor
/- THE CELL 'sum', in the pinned program and in every row, IS THE sha256 OF THE DUMP (.gsa) THAT YtnainpghpjelcaaGreatDoorProg.lean LOADS. Nothing in Lean hashes anything: it is a label: what it is worth is what the hold of that sum in a sandbox is worth. -/
noncomputable def Tryz.pinned : Pinned := { name := "ytnainpghpjelcaagreatdoor", sum := "c305180f9a36b4e840d24246fac485fe8b08ed0f8d2a1aef2f2a42966ed45c0b", checked := Tryz.checked }
namespace Rows
def none {H : Type} : Left H := { results := [], args := [] }

/- WHAT THE LISTED PACKAGE-LEVEL VARIABLES READ AS WHEN THE CALL BEGINS. Each datum BY PROGRAM (the guide's laid-datum.mjs) off the statement by which the dump's own 'gosem.cut.vars' lays the variable. In a bare row this is a premise. The card (YtnainpghpjelcaaGreatDoorCards.lean) ties it to the program's text. -/
def laid_unicode_utf8_acceptRanges {H : Type} : DataW H := .agg [.agg [.lit (.int .u8 128), .lit (.int .u8 191)], .agg [.lit (.int .u8 160), .lit (.int .u8 191)], .agg [.lit (.int .u8 128), .lit (.int .u8 159)], .agg [.lit (.int .u8 144), .lit (.int .u8 191)], .agg [.lit (.int .u8 128), .lit (.int .u8 143)], .agg [.lit (.int .u8 0), .lit (.int .u8 0)], .agg [.lit (.int .u8 0), .lit (.int .u8 0)], .agg [.lit (.int .u8 0), .lit (.int .u8 0)], .agg [.lit (.int .u8 0), .lit (.int .u8 0)], .agg [.lit (.int .u8 0), .lit (.int .u8 0)], .agg [.lit (.int .u8 0), .lit (.int .u8 0)], .agg [.lit (.int .u8 0), .lit (.int .u8 0)], .agg [.lit (.int .u8 0), .lit (.int .u8 0)], .agg [.lit (.int .u8 0), .lit (.int .u8 0)], .agg [.lit (.int .u8 0), .lit (.int .u8 0)], .agg [.lit (.int .u8 0), .lit (.int .u8 0)]]
/-- One of Go's own tables, pinned by name: the form's constant. -/
def laid_unicode_utf8_first : DataW Unit := Go.Pinned.utf8First
def laid_math_bits_deBruijn32tab {H : Type} : DataW H := .agg [.lit (.int .u8 0), .lit (.int .u8 1), .lit (.int .u8 28), .lit (.int .u8 2), .lit (.int .u8 29), .lit (.int .u8 14), .lit (.int .u8 24), .lit (.int .u8 3), .lit (.int .u8 30), .lit (.int .u8 22), .lit (.int .u8 20), .lit (.int .u8 15), .lit (.int .u8 25), .lit (.int .u8 17), .lit (.int .u8 4), .lit (.int .u8 8), .lit (.int .u8 31), .lit (.int .u8 27), .lit (.int .u8 13), .lit (.int .u8 23), .lit (.int .u8 21), .lit (.int .u8 19), .lit (.int .u8 16), .lit (.int .u8 7), .lit (.int .u8 26), .lit (.int .u8 12), .lit (.int .u8 18), .lit (.int .u8 6), .lit (.int .u8 11), .lit (.int .u8 5), .lit (.int .u8 10), .lit (.int .u8 9)]
def laid_math_bits_deBruijn64tab {H : Type} : DataW H := .agg [.lit (.int .u8 0), .lit (.int .u8 1), .lit (.int .u8 56), .lit (.int .u8 2), .lit (.int .u8 57), .lit (.int .u8 49), .lit (.int .u8 28), .lit (.int .u8 3), .lit (.int .u8 61), .lit (.int .u8 58), .lit (.int .u8 42), .lit (.int .u8 50), .lit (.int .u8 38), .lit (.int .u8 29), .lit (.int .u8 17), .lit (.int .u8 4), .lit (.int .u8 62), .lit (.int .u8 47), .lit (.int .u8 59), .lit (.int .u8 36), .lit (.int .u8 45), .lit (.int .u8 43), .lit (.int .u8 51), .lit (.int .u8 22), .lit (.int .u8 53), .lit (.int .u8 39), .lit (.int .u8 33), .lit (.int .u8 30), .lit (.int .u8 24), .lit (.int .u8 18), .lit (.int .u8 12), .lit (.int .u8 5), .lit (.int .u8 63), .lit (.int .u8 55), .lit (.int .u8 48), .lit (.int .u8 27), .lit (.int .u8 60), .lit (.int .u8 41), .lit (.int .u8 37), .lit (.int .u8 16), .lit (.int .u8 46), .lit (.int .u8 35), .lit (.int .u8 44), .lit (.int .u8 21), .lit (.int .u8 52), .lit (.int .u8 32), .lit (.int .u8 23), .lit (.int .u8 11), .lit (.int .u8 54), .lit (.int .u8 26), .lit (.int .u8 40), .lit (.int .u8 15), .lit (.int .u8 34), .lit (.int .u8 20), .lit (.int .u8 31), .lit (.int .u8 10), .lit (.int .u8 25), .lit (.int .u8 14), .lit (.int .u8 19), .lit (.int .u8 9), .lit (.int .u8 13), .lit (.int .u8 8), .lit (.int .u8 7), .lit (.int .u8 6)]
def laid_internal_strconv_uint64pow10 {H : Type} : DataW H := .agg [.lit (.int .u64 1), .lit (.int .u64 10), .lit (.int .u64 100), .lit (.int .u64 1000), .lit (.int .u64 10000), .lit (.int .u64 100000), .lit (.int .u64 1000000), .lit (.int .u64 10000000), .lit (.int .u64 100000000), .lit (.int .u64 1000000000), .lit (.int .u64 10000000000), .lit (.int .u64 100000000000), .lit (.int .u64 1000000000000), .lit (.int .u64 10000000000000), .lit (.int .u64 100000000000000), .lit (.int .u64 1000000000000000), .lit (.int .u64 10000000000000000), .lit (.int .u64 100000000000000000), .lit (.int .u64 1000000000000000000), .lit (.int .u64 10000000000000000000)]
def laid_strconv_ErrRange {H : Type} : DataW H := .iface "*errors.errorString" (.ptr (.agg [.lit (.string [118, 97, 108, 117, 101, 32, 111, 117, 116, 32, 111, 102, 32, 114, 97, 110, 103, 101])]))
def laid_strconv_ErrSyntax {H : Type} : DataW H := .iface "*errors.errorString" (.ptr (.agg [.lit (.string [105, 110, 118, 97, 108, 105, 100, 32, 115, 121, 110, 116, 97, 120])]))

/-- 'ephemeralaw5.FrontierWaitIsTheFirst': WHATEVER THE INPUT: true; the input reads as it did. -/
def frontierWaitIsTheFirstSpec : ChangeSpec := { name := "frontierWaitIsTheFirst", fn := fun _ => fun
  | [d1, d2, d3] => { results := [.lit (.bool true)], args := [d1, d2, d3] }
  | _ => none }
def frontierWaitIsTheFirstRow : OpenClaim := { program := "ytnainpghpjelcaagreatdoor", sum := "c305180f9a36b4e840d24246fac485fe8b08ed0f8d2a1aef2f2a42966ed45c0b", func := "ephemera/ephemeralaw5.FrontierWaitIsTheFirst", spec := "frontierWaitIsTheFirst", inPlace := ["internal/bytealg.IndexByteString", "internal/bytealg.IndexString", "internal/bytealg.CountString", "internal/abi.NoEscape", "internal/bytealg.MakeNoZero", "internal/bytealg.abigen_runtime_cmpstring"], unfollowed := true, recurses := true, named := ["internal/bytealg.MaxLen", "unicode/utf8.first", "unicode/utf8.acceptRanges"], apart := false, laid := [("unicode/utf8.acceptRanges", laid_unicode_utf8_acceptRanges), ("unicode/utf8.first", laid_unicode_utf8_first)] }
def FrontierWaitIsTheFirstSaid : Prop := frontierWaitIsTheFirstRow.holds Tryz.pinned (OpenSpec.ofChange frontierWaitIsTheFirstSpec)

/-- ITS FALSE NEIGHBOUR: 'it returns false'. Refute it at one input. -/
def frontierWaitIsTheFirstWrong : ChangeSpec := { name := "frontierWaitIsTheFirst", fn := fun _ => fun
  | [d1, d2, d3] => { results := [.lit (.bool false)], args := [d1, d2, d3] }
  | _ => none }
def FrontierWaitIsTheFirstWrongFalsely : Prop := frontierWaitIsTheFirstRow.holds Tryz.pinned (OpenSpec.ofChange frontierWaitIsTheFirstWrong)

/-- 'ephemeralaw5.FrontierAddsInAnyOrder': WHATEVER THE INPUT: true; the input reads as it did. -/
def frontierAddsInAnyOrderSpec : ChangeSpec := { name := "frontierAddsInAnyOrder", fn := fun _ => fun
  | [d1, d2, d3] => { results := [.lit (.bool true)], args := [d1, d2, d3] }
  | _ => none }
def frontierAddsInAnyOrderRow : OpenClaim := { program := "ytnainpghpjelcaagreatdoor", sum := "c305180f9a36b4e840d24246fac485fe8b08ed0f8d2a1aef2f2a42966ed45c0b", func := "ephemera/ephemeralaw5.FrontierAddsInAnyOrder", spec := "frontierAddsInAnyOrder", inPlace := ["internal/bytealg.IndexByteString", "internal/bytealg.IndexString", "internal/bytealg.CountString", "internal/abi.NoEscape", "internal/bytealg.MakeNoZero", "internal/bytealg.abigen_runtime_cmpstring", "slices.overlaps[ephemera/api.Wanted]"], unfollowed := true, recurses := true, named := ["internal/bytealg.MaxLen", "unicode/utf8.first", "unicode/utf8.acceptRanges"], apart := false, laid := [("unicode/utf8.acceptRanges", laid_unicode_utf8_acceptRanges), ("unicode/utf8.first", laid_unicode_utf8_first)] }
def FrontierAddsInAnyOrderSaid : Prop := frontierAddsInAnyOrderRow.holds Tryz.pinned (OpenSpec.ofChange frontierAddsInAnyOrderSpec)

/-- ITS FALSE NEIGHBOUR: 'it returns false'. Refute it at one input. -/
def frontierAddsInAnyOrderWrong : ChangeSpec := { name := "frontierAddsInAnyOrder", fn := fun _ => fun
  | [d1, d2, d3] => { results := [.lit (.bool false)], args := [d1, d2, d3] }
  | _ => none }
def FrontierAddsInAnyOrderWrongFalsely : Prop := frontierAddsInAnyOrderRow.holds Tryz.pinned (OpenSpec.ofChange frontierAddsInAnyOrderWrong)

/-- 'ephemeralaw5.FrontierTrapsMatchSpec': WHATEVER THE INPUT: true; the input reads as it did. -/
def frontierTrapsMatchSpecSpec : ChangeSpec := { name := "frontierTrapsMatchSpec", fn := fun _ => fun
  | [d1, d2] => { results := [.lit (.bool true)], args := [d1, d2] }
  | _ => none }
def frontierTrapsMatchSpecRow : OpenClaim := { program := "ytnainpghpjelcaagreatdoor", sum := "c305180f9a36b4e840d24246fac485fe8b08ed0f8d2a1aef2f2a42966ed45c0b", func := "ephemera/ephemeralaw5.FrontierTrapsMatchSpec", spec := "frontierTrapsMatchSpec", inPlace := ["internal/bytealg.IndexByteString", "internal/bytealg.IndexString", "internal/bytealg.CountString", "internal/abi.NoEscape", "internal/bytealg.MakeNoZero"], unfollowed := true, recurses := true, named := ["internal/bytealg.MaxLen", "unicode/utf8.first", "unicode/utf8.acceptRanges", "strconv.ErrSyntax", "strconv.ErrRange", "internal/strconv.uint64pow10", "math/bits.deBruijn32tab", "math/bits.deBruijn64tab"], apart := false, laid := [("math/bits.deBruijn32tab", laid_math_bits_deBruijn32tab), ("math/bits.deBruijn64tab", laid_math_bits_deBruijn64tab), ("internal/strconv.uint64pow10", laid_internal_strconv_uint64pow10), ("unicode/utf8.acceptRanges", laid_unicode_utf8_acceptRanges), ("strconv.ErrRange", laid_strconv_ErrRange), ("strconv.ErrSyntax", laid_strconv_ErrSyntax), ("unicode/utf8.first", laid_unicode_utf8_first)] }
def FrontierTrapsMatchSpecSaid : Prop := frontierTrapsMatchSpecRow.holds Tryz.pinned (OpenSpec.ofChange frontierTrapsMatchSpecSpec)

/-- ITS FALSE NEIGHBOUR: 'it returns false'. Refute it at one input. -/
def frontierTrapsMatchSpecWrong : ChangeSpec := { name := "frontierTrapsMatchSpec", fn := fun _ => fun
  | [d1, d2] => { results := [.lit (.bool false)], args := [d1, d2] }
  | _ => none }
def FrontierTrapsMatchSpecWrongFalsely : Prop := frontierTrapsMatchSpecRow.holds Tryz.pinned (OpenSpec.ofChange frontierTrapsMatchSpecWrong)

/-- 'ephemeralaw5.FrontierSharesMatchSpec': WHATEVER THE INPUT: true; the input reads as it did. -/
def frontierSharesMatchSpecSpec : ChangeSpec := { name := "frontierSharesMatchSpec", fn := fun _ => fun
  | [d1, d2, d3, d4] => { results := [.lit (.bool true)], args := [d1, d2, d3, d4] }
  | _ => none }
def frontierSharesMatchSpecRow : OpenClaim := { program := "ytnainpghpjelcaagreatdoor", sum := "c305180f9a36b4e840d24246fac485fe8b08ed0f8d2a1aef2f2a42966ed45c0b", func := "ephemera/ephemeralaw5.FrontierSharesMatchSpec", spec := "frontierSharesMatchSpec", inPlace := ["internal/bytealg.IndexByteString", "internal/bytealg.IndexString", "internal/bytealg.CountString", "internal/abi.NoEscape", "internal/bytealg.MakeNoZero"], recurses := true, named := ["internal/bytealg.MaxLen", "unicode/utf8.first", "unicode/utf8.acceptRanges", "strconv.ErrSyntax", "strconv.ErrRange", "internal/strconv.uint64pow10", "math/bits.deBruijn32tab", "math/bits.deBruijn64tab"], apart := false, laid := [("math/bits.deBruijn32tab", laid_math_bits_deBruijn32tab), ("math/bits.deBruijn64tab", laid_math_bits_deBruijn64tab), ("internal/strconv.uint64pow10", laid_internal_strconv_uint64pow10), ("unicode/utf8.acceptRanges", laid_unicode_utf8_acceptRanges), ("strconv.ErrRange", laid_strconv_ErrRange), ("strconv.ErrSyntax", laid_strconv_ErrSyntax), ("unicode/utf8.first", laid_unicode_utf8_first)] }
def FrontierSharesMatchSpecSaid : Prop := frontierSharesMatchSpecRow.holds Tryz.pinned (OpenSpec.ofChange frontierSharesMatchSpecSpec)

/-- ITS FALSE NEIGHBOUR: 'it returns false'. Refute it at one input. -/
def frontierSharesMatchSpecWrong : ChangeSpec := { name := "frontierSharesMatchSpec", fn := fun _ => fun
  | [d1, d2, d3, d4] => { results := [.lit (.bool false)], args := [d1, d2, d3, d4] }
  | _ => none }
def FrontierSharesMatchSpecWrongFalsely : Prop := frontierSharesMatchSpecRow.holds Tryz.pinned (OpenSpec.ofChange frontierSharesMatchSpecWrong)

/-- 'ephemeralaw5.FrontierReadsMatchSpec': WHATEVER THE INPUT: true; the input reads as it did. -/
def frontierReadsMatchSpecSpec : ChangeSpec := { name := "frontierReadsMatchSpec", fn := fun _ => fun
  | [d] => { results := [.lit (.bool true)], args := [d] }
  | _ => none }
def frontierReadsMatchSpecRow : OpenClaim := { program := "ytnainpghpjelcaagreatdoor", sum := "c305180f9a36b4e840d24246fac485fe8b08ed0f8d2a1aef2f2a42966ed45c0b", func := "ephemera/ephemeralaw5.FrontierReadsMatchSpec", spec := "frontierReadsMatchSpec", inPlace := ["internal/bytealg.IndexByteString", "internal/bytealg.IndexString", "internal/bytealg.CountString", "internal/abi.NoEscape", "internal/bytealg.MakeNoZero"], recurses := true, named := ["internal/bytealg.MaxLen", "unicode/utf8.first", "unicode/utf8.acceptRanges", "strconv.ErrSyntax", "strconv.ErrRange", "internal/strconv.uint64pow10", "math/bits.deBruijn32tab", "math/bits.deBruijn64tab"], apart := false, laid := [("math/bits.deBruijn32tab", laid_math_bits_deBruijn32tab), ("math/bits.deBruijn64tab", laid_math_bits_deBruijn64tab), ("internal/strconv.uint64pow10", laid_internal_strconv_uint64pow10), ("unicode/utf8.acceptRanges", laid_unicode_utf8_acceptRanges), ("strconv.ErrRange", laid_strconv_ErrRange), ("strconv.ErrSyntax", laid_strconv_ErrSyntax), ("unicode/utf8.first", laid_unicode_utf8_first)] }
def FrontierReadsMatchSpecSaid : Prop := frontierReadsMatchSpecRow.holds Tryz.pinned (OpenSpec.ofChange frontierReadsMatchSpecSpec)

/-- ITS FALSE NEIGHBOUR: 'it returns false'. Refute it at one input. -/
def frontierReadsMatchSpecWrong : ChangeSpec := { name := "frontierReadsMatchSpec", fn := fun _ => fun
  | [d] => { results := [.lit (.bool false)], args := [d] }
  | _ => none }
def FrontierReadsMatchSpecWrongFalsely : Prop := frontierReadsMatchSpecRow.holds Tryz.pinned (OpenSpec.ofChange frontierReadsMatchSpecWrong)

/-- 'ephemeralaw5.FrontierTextsMatchSpec': WHATEVER THE INPUT: true; the input reads as it did. -/
def frontierTextsMatchSpecSpec : ChangeSpec := { name := "frontierTextsMatchSpec", fn := fun _ => fun
  | [d] => { results := [.lit (.bool true)], args := [d] }
  | _ => none }
def frontierTextsMatchSpecRow : OpenClaim := { program := "ytnainpghpjelcaagreatdoor", sum := "c305180f9a36b4e840d24246fac485fe8b08ed0f8d2a1aef2f2a42966ed45c0b", func := "ephemera/ephemeralaw5.FrontierTextsMatchSpec", spec := "frontierTextsMatchSpec", inPlace := ["internal/bytealg.IndexByteString", "internal/bytealg.IndexString", "internal/bytealg.CountString", "internal/abi.NoEscape", "internal/bytealg.MakeNoZero"], unfollowed := true, recurses := true, named := ["internal/bytealg.MaxLen", "unicode/utf8.first", "unicode/utf8.acceptRanges", "internal/strconv.uint64pow10", "math/bits.deBruijn32tab", "math/bits.deBruijn64tab", "strconv.ErrSyntax", "strconv.ErrRange"], apart := false, laid := [("math/bits.deBruijn32tab", laid_math_bits_deBruijn32tab), ("math/bits.deBruijn64tab", laid_math_bits_deBruijn64tab), ("internal/strconv.uint64pow10", laid_internal_strconv_uint64pow10), ("unicode/utf8.acceptRanges", laid_unicode_utf8_acceptRanges), ("strconv.ErrRange", laid_strconv_ErrRange), ("strconv.ErrSyntax", laid_strconv_ErrSyntax), ("unicode/utf8.first", laid_unicode_utf8_first)] }
def FrontierTextsMatchSpecSaid : Prop := frontierTextsMatchSpecRow.holds Tryz.pinned (OpenSpec.ofChange frontierTextsMatchSpecSpec)

/-- ITS FALSE NEIGHBOUR: 'it returns false'. Refute it at one input. -/
def frontierTextsMatchSpecWrong : ChangeSpec := { name := "frontierTextsMatchSpec", fn := fun _ => fun
  | [d] => { results := [.lit (.bool false)], args := [d] }
  | _ => none }
def FrontierTextsMatchSpecWrongFalsely : Prop := frontierTextsMatchSpecRow.holds Tryz.pinned (OpenSpec.ofChange frontierTextsMatchSpecWrong)

/-- 'ephemeralaw5.FrontierNextMatchesSpec': WHATEVER THE INPUT: true; the input reads as it did. -/
def frontierNextMatchesSpecSpec : ChangeSpec := { name := "frontierNextMatchesSpec", fn := fun _ => fun
  | [d1, d2, d3] => { results := [.lit (.bool true)], args := [d1, d2, d3] }
  | _ => none }
def frontierNextMatchesSpecRow : OpenClaim := { program := "ytnainpghpjelcaagreatdoor", sum := "c305180f9a36b4e840d24246fac485fe8b08ed0f8d2a1aef2f2a42966ed45c0b", func := "ephemera/ephemeralaw5.FrontierNextMatchesSpec", spec := "frontierNextMatchesSpec", inPlace := ["internal/bytealg.IndexByteString", "internal/bytealg.IndexString", "internal/bytealg.CountString", "internal/abi.NoEscape", "internal/bytealg.MakeNoZero", "internal/bytealg.abigen_runtime_cmpstring"], unfollowed := true, recurses := true, named := ["internal/bytealg.MaxLen", "unicode/utf8.first", "unicode/utf8.acceptRanges", "strconv.ErrSyntax", "strconv.ErrRange", "internal/strconv.uint64pow10", "math/bits.deBruijn32tab", "math/bits.deBruijn64tab"], apart := false, laid := [("math/bits.deBruijn32tab", laid_math_bits_deBruijn32tab), ("math/bits.deBruijn64tab", laid_math_bits_deBruijn64tab), ("internal/strconv.uint64pow10", laid_internal_strconv_uint64pow10), ("unicode/utf8.acceptRanges", laid_unicode_utf8_acceptRanges), ("strconv.ErrRange", laid_strconv_ErrRange), ("strconv.ErrSyntax", laid_strconv_ErrSyntax), ("unicode/utf8.first", laid_unicode_utf8_first)] }
def FrontierNextMatchesSpecSaid : Prop := frontierNextMatchesSpecRow.holds Tryz.pinned (OpenSpec.ofChange frontierNextMatchesSpecSpec)

/-- ITS FALSE NEIGHBOUR: 'it returns false'. Refute it at one input. -/
def frontierNextMatchesSpecWrong : ChangeSpec := { name := "frontierNextMatchesSpec", fn := fun _ => fun
  | [d1, d2, d3] => { results := [.lit (.bool false)], args := [d1, d2, d3] }
  | _ => none }
def FrontierNextMatchesSpecWrongFalsely : Prop := frontierNextMatchesSpecRow.holds Tryz.pinned (OpenSpec.ofChange frontierNextMatchesSpecWrong)

/-- 'ephemeralaw5.FrontierUrgentMatchesSpec': WHATEVER THE INPUT: true; the input reads as it did. -/
def frontierUrgentMatchesSpecSpec : ChangeSpec := { name := "frontierUrgentMatchesSpec", fn := fun _ => fun
  | [d1, d2, d3] => { results := [.lit (.bool true)], args := [d1, d2, d3] }
  | _ => none }
def frontierUrgentMatchesSpecRow : OpenClaim := { program := "ytnainpghpjelcaagreatdoor", sum := "c305180f9a36b4e840d24246fac485fe8b08ed0f8d2a1aef2f2a42966ed45c0b", func := "ephemera/ephemeralaw5.FrontierUrgentMatchesSpec", spec := "frontierUrgentMatchesSpec", inPlace := ["internal/bytealg.IndexByteString", "internal/bytealg.IndexString", "internal/bytealg.CountString", "internal/abi.NoEscape", "internal/bytealg.MakeNoZero", "slices.overlaps[int]"], unfollowed := true, recurses := true, named := ["internal/bytealg.MaxLen", "unicode/utf8.first", "unicode/utf8.acceptRanges", "strconv.ErrSyntax", "strconv.ErrRange", "internal/strconv.uint64pow10", "math/bits.deBruijn32tab", "math/bits.deBruijn64tab"], apart := false, laid := [("math/bits.deBruijn32tab", laid_math_bits_deBruijn32tab), ("math/bits.deBruijn64tab", laid_math_bits_deBruijn64tab), ("internal/strconv.uint64pow10", laid_internal_strconv_uint64pow10), ("unicode/utf8.acceptRanges", laid_unicode_utf8_acceptRanges), ("strconv.ErrRange", laid_strconv_ErrRange), ("strconv.ErrSyntax", laid_strconv_ErrSyntax), ("unicode/utf8.first", laid_unicode_utf8_first)] }
def FrontierUrgentMatchesSpecSaid : Prop := frontierUrgentMatchesSpecRow.holds Tryz.pinned (OpenSpec.ofChange frontierUrgentMatchesSpecSpec)

/-- ITS FALSE NEIGHBOUR: 'it returns false'. Refute it at one input. -/
def frontierUrgentMatchesSpecWrong : ChangeSpec := { name := "frontierUrgentMatchesSpec", fn := fun _ => fun
  | [d1, d2, d3] => { results := [.lit (.bool false)], args := [d1, d2, d3] }
  | _ => none }
def FrontierUrgentMatchesSpecWrongFalsely : Prop := frontierUrgentMatchesSpecRow.holds Tryz.pinned (OpenSpec.ofChange frontierUrgentMatchesSpecWrong)

/-- 'ephemeralaw5.FrontierAddsMatchSpec': WHATEVER THE INPUT: true; the input reads as it did. -/
def frontierAddsMatchSpecSpec : ChangeSpec := { name := "frontierAddsMatchSpec", fn := fun _ => fun
  | [d1, d2, d3] => { results := [.lit (.bool true)], args := [d1, d2, d3] }
  | _ => none }
def frontierAddsMatchSpecRow : OpenClaim := { program := "ytnainpghpjelcaagreatdoor", sum := "c305180f9a36b4e840d24246fac485fe8b08ed0f8d2a1aef2f2a42966ed45c0b", func := "ephemera/ephemeralaw5.FrontierAddsMatchSpec", spec := "frontierAddsMatchSpec", inPlace := ["internal/bytealg.IndexByteString", "internal/bytealg.IndexString", "internal/bytealg.CountString", "internal/abi.NoEscape", "internal/bytealg.MakeNoZero", "internal/bytealg.abigen_runtime_cmpstring", "slices.overlaps[ephemera/api.Wanted]"], unfollowed := true, recurses := true, named := ["internal/bytealg.MaxLen", "unicode/utf8.first", "unicode/utf8.acceptRanges", "strconv.ErrSyntax", "strconv.ErrRange", "internal/strconv.uint64pow10", "math/bits.deBruijn32tab", "math/bits.deBruijn64tab"], apart := false, laid := [("math/bits.deBruijn32tab", laid_math_bits_deBruijn32tab), ("math/bits.deBruijn64tab", laid_math_bits_deBruijn64tab), ("internal/strconv.uint64pow10", laid_internal_strconv_uint64pow10), ("unicode/utf8.acceptRanges", laid_unicode_utf8_acceptRanges), ("strconv.ErrRange", laid_strconv_ErrRange), ("strconv.ErrSyntax", laid_strconv_ErrSyntax), ("unicode/utf8.first", laid_unicode_utf8_first)] }
def FrontierAddsMatchSpecSaid : Prop := frontierAddsMatchSpecRow.holds Tryz.pinned (OpenSpec.ofChange frontierAddsMatchSpecSpec)

/-- ITS FALSE NEIGHBOUR: 'it returns false'. Refute it at one input. -/
def frontierAddsMatchSpecWrong : ChangeSpec := { name := "frontierAddsMatchSpec", fn := fun _ => fun
  | [d1, d2, d3] => { results := [.lit (.bool false)], args := [d1, d2, d3] }
  | _ => none }
def FrontierAddsMatchSpecWrongFalsely : Prop := frontierAddsMatchSpecRow.holds Tryz.pinned (OpenSpec.ofChange frontierAddsMatchSpecWrong)

/-- 'ephemeralaw5.FrontierTakesMatchSpec': WHATEVER THE INPUT: true; the input reads as it did. -/
def frontierTakesMatchSpecSpec : ChangeSpec := { name := "frontierTakesMatchSpec", fn := fun _ => fun
  | [d1, d2, d3, d4, d5] => { results := [.lit (.bool true)], args := [d1, d2, d3, d4, d5] }
  | _ => none }
def frontierTakesMatchSpecRow : OpenClaim := { program := "ytnainpghpjelcaagreatdoor", sum := "c305180f9a36b4e840d24246fac485fe8b08ed0f8d2a1aef2f2a42966ed45c0b", func := "ephemera/ephemeralaw5.FrontierTakesMatchSpec", spec := "frontierTakesMatchSpec", inPlace := ["internal/bytealg.IndexByteString", "internal/bytealg.IndexString", "internal/bytealg.CountString", "internal/abi.NoEscape", "internal/bytealg.MakeNoZero", "internal/bytealg.abigen_runtime_cmpstring", "slices.overlaps[ephemera/api.Host]"], unfollowed := true, recurses := true, named := ["internal/bytealg.MaxLen", "unicode/utf8.first", "unicode/utf8.acceptRanges", "strconv.ErrSyntax", "strconv.ErrRange", "internal/strconv.uint64pow10", "math/bits.deBruijn32tab", "math/bits.deBruijn64tab"], apart := false, laid := [("math/bits.deBruijn32tab", laid_math_bits_deBruijn32tab), ("math/bits.deBruijn64tab", laid_math_bits_deBruijn64tab), ("internal/strconv.uint64pow10", laid_internal_strconv_uint64pow10), ("unicode/utf8.acceptRanges", laid_unicode_utf8_acceptRanges), ("strconv.ErrRange", laid_strconv_ErrRange), ("strconv.ErrSyntax", laid_strconv_ErrSyntax), ("unicode/utf8.first", laid_unicode_utf8_first)] }
def FrontierTakesMatchSpecSaid : Prop := frontierTakesMatchSpecRow.holds Tryz.pinned (OpenSpec.ofChange frontierTakesMatchSpecSpec)

/-- ITS FALSE NEIGHBOUR: 'it returns false'. Refute it at one input. -/
def frontierTakesMatchSpecWrong : ChangeSpec := { name := "frontierTakesMatchSpec", fn := fun _ => fun
  | [d1, d2, d3, d4, d5] => { results := [.lit (.bool false)], args := [d1, d2, d3, d4, d5] }
  | _ => none }
def FrontierTakesMatchSpecWrongFalsely : Prop := frontierTakesMatchSpecRow.holds Tryz.pinned (OpenSpec.ofChange frontierTakesMatchSpecWrong)

/-- 'ephemeralaw5.FrontierIsPolite': WHATEVER THE INPUT: true; the input reads as it did. -/
def frontierIsPoliteSpec : ChangeSpec := { name := "frontierIsPolite", fn := fun _ => fun
  | [d1, d2, d3, d4] => { results := [.lit (.bool true)], args := [d1, d2, d3, d4] }
  | _ => none }
def frontierIsPoliteRow : OpenClaim := { program := "ytnainpghpjelcaagreatdoor", sum := "c305180f9a36b4e840d24246fac485fe8b08ed0f8d2a1aef2f2a42966ed45c0b", func := "ephemera/ephemeralaw5.FrontierIsPolite", spec := "frontierIsPolite", inPlace := ["internal/bytealg.IndexByteString", "internal/bytealg.IndexString", "internal/bytealg.CountString", "internal/abi.NoEscape", "internal/bytealg.MakeNoZero", "internal/bytealg.abigen_runtime_cmpstring", "slices.overlaps[ephemera/api.Host]", "slices.overlaps[ephemera/api.Wanted]"], unfollowed := true, recurses := true, named := ["internal/bytealg.MaxLen", "unicode/utf8.first", "unicode/utf8.acceptRanges", "strconv.ErrSyntax", "strconv.ErrRange", "internal/strconv.uint64pow10", "math/bits.deBruijn32tab", "math/bits.deBruijn64tab"], apart := false, laid := [("math/bits.deBruijn32tab", laid_math_bits_deBruijn32tab), ("math/bits.deBruijn64tab", laid_math_bits_deBruijn64tab), ("internal/strconv.uint64pow10", laid_internal_strconv_uint64pow10), ("unicode/utf8.acceptRanges", laid_unicode_utf8_acceptRanges), ("strconv.ErrRange", laid_strconv_ErrRange), ("strconv.ErrSyntax", laid_strconv_ErrSyntax), ("unicode/utf8.first", laid_unicode_utf8_first)] }
def FrontierIsPoliteSaid : Prop := frontierIsPoliteRow.holds Tryz.pinned (OpenSpec.ofChange frontierIsPoliteSpec)

/-- ITS FALSE NEIGHBOUR: 'it returns false'. Refute it at one input. -/
def frontierIsPoliteWrong : ChangeSpec := { name := "frontierIsPolite", fn := fun _ => fun
  | [d1, d2, d3, d4] => { results := [.lit (.bool false)], args := [d1, d2, d3, d4] }
  | _ => none }
def FrontierIsPoliteWrongFalsely : Prop := frontierIsPoliteRow.holds Tryz.pinned (OpenSpec.ofChange frontierIsPoliteWrong)

/- THE SECOND FORM. 'bulk': how many values and letters a reading holds, each counted each time it is reached (what is shared counts as often as it is met; a slice's spare places count too). A statement '..UptoSaid' is the law's where the arguments, and the package variables that the reading takes, are together of bulk at most 1048576: NARROWER than '..Said'. Prove '..Said' where nothing that the law and all that it calls make is longer than what came in: it says more and counts as full. Else prove '..UptoSaid'. A law counts once. -/
mutual
def uptoBulk {H : Type} : DataW H → Nat
  | .lit (.string bytes) => bytes.length + 1
  | .lit _ => 1
  | .nil => 1
  | .ptr d => uptoBulk d + 1
  | .slice elems spare => uptoBulkAll elems + uptoBulkAll spare + 1
  | .agg parts => uptoBulkAll parts + 1
  | .iface _ d => uptoBulk d + 1
  | .map entries => uptoBulkEntries entries + 1
  | .held _ => 1
def uptoBulkAll {H : Type} : List (DataW H) → Nat
  | [] => 0
  | d :: r => uptoBulk d + uptoBulkAll r
def uptoBulkEntries {H : Type} : List (Lit × DataW H) → Nat
  | [] => 0
  | x :: r => uptoBulkEntry x + uptoBulkEntries r
def uptoBulkEntry {H : Type} : Lit × DataW H → Nat
  | (.string bytes, d) => bytes.length + uptoBulk d + 1
  | (_, d) => uptoBulk d + 1
 end
def uptoSmall : (H : Type) → List (DataW H) → Bool := fun _ ds => decide (uptoBulkAll ds ≤ 1048576)
def OpenSpec.upto (s : _root_.Go.ChangeSpec) : _root_.Go.OpenSpec := { _root_.Go.OpenSpec.ofChange s with cond := some uptoSmall }

/-- 'ephemeralaw5.FrontierWaitIsTheFirst', WHERE WHAT IT READS IS OF BULK AT MOST 1048576: true; the input reads as it did. -/
def frontierWaitIsTheFirstUptoRow : OpenClaim := { program := "ytnainpghpjelcaagreatdoor", sum := "c305180f9a36b4e840d24246fac485fe8b08ed0f8d2a1aef2f2a42966ed45c0b", func := "ephemera/ephemeralaw5.FrontierWaitIsTheFirst", spec := "frontierWaitIsTheFirst", inPlace := ["internal/bytealg.IndexByteString", "internal/bytealg.IndexString", "internal/bytealg.CountString", "internal/abi.NoEscape", "internal/bytealg.MakeNoZero", "internal/bytealg.abigen_runtime_cmpstring"], unfollowed := true, recurses := true, named := ["internal/bytealg.MaxLen", "unicode/utf8.first", "unicode/utf8.acceptRanges"], apart := false, laid := [("unicode/utf8.acceptRanges", laid_unicode_utf8_acceptRanges), ("unicode/utf8.first", laid_unicode_utf8_first)], narrowed := true }
def FrontierWaitIsTheFirstUptoSaid : Prop := frontierWaitIsTheFirstUptoRow.holds Tryz.pinned (OpenSpec.upto frontierWaitIsTheFirstSpec)

/-- 'ephemeralaw5.FrontierAddsInAnyOrder', WHERE WHAT IT READS IS OF BULK AT MOST 1048576: true; the input reads as it did. -/
def frontierAddsInAnyOrderUptoRow : OpenClaim := { program := "ytnainpghpjelcaagreatdoor", sum := "c305180f9a36b4e840d24246fac485fe8b08ed0f8d2a1aef2f2a42966ed45c0b", func := "ephemera/ephemeralaw5.FrontierAddsInAnyOrder", spec := "frontierAddsInAnyOrder", inPlace := ["internal/bytealg.IndexByteString", "internal/bytealg.IndexString", "internal/bytealg.CountString", "internal/abi.NoEscape", "internal/bytealg.MakeNoZero", "internal/bytealg.abigen_runtime_cmpstring", "slices.overlaps[ephemera/api.Wanted]"], unfollowed := true, recurses := true, named := ["internal/bytealg.MaxLen", "unicode/utf8.first", "unicode/utf8.acceptRanges"], apart := false, laid := [("unicode/utf8.acceptRanges", laid_unicode_utf8_acceptRanges), ("unicode/utf8.first", laid_unicode_utf8_first)], narrowed := true }
def FrontierAddsInAnyOrderUptoSaid : Prop := frontierAddsInAnyOrderUptoRow.holds Tryz.pinned (OpenSpec.upto frontierAddsInAnyOrderSpec)

/-- 'ephemeralaw5.FrontierTrapsMatchSpec', WHERE WHAT IT READS IS OF BULK AT MOST 1048576: true; the input reads as it did. -/
def frontierTrapsMatchSpecUptoRow : OpenClaim := { program := "ytnainpghpjelcaagreatdoor", sum := "c305180f9a36b4e840d24246fac485fe8b08ed0f8d2a1aef2f2a42966ed45c0b", func := "ephemera/ephemeralaw5.FrontierTrapsMatchSpec", spec := "frontierTrapsMatchSpec", inPlace := ["internal/bytealg.IndexByteString", "internal/bytealg.IndexString", "internal/bytealg.CountString", "internal/abi.NoEscape", "internal/bytealg.MakeNoZero"], unfollowed := true, recurses := true, named := ["internal/bytealg.MaxLen", "unicode/utf8.first", "unicode/utf8.acceptRanges", "strconv.ErrSyntax", "strconv.ErrRange", "internal/strconv.uint64pow10", "math/bits.deBruijn32tab", "math/bits.deBruijn64tab"], apart := false, laid := [("math/bits.deBruijn32tab", laid_math_bits_deBruijn32tab), ("math/bits.deBruijn64tab", laid_math_bits_deBruijn64tab), ("internal/strconv.uint64pow10", laid_internal_strconv_uint64pow10), ("unicode/utf8.acceptRanges", laid_unicode_utf8_acceptRanges), ("strconv.ErrRange", laid_strconv_ErrRange), ("strconv.ErrSyntax", laid_strconv_ErrSyntax), ("unicode/utf8.first", laid_unicode_utf8_first)], narrowed := true }
def FrontierTrapsMatchSpecUptoSaid : Prop := frontierTrapsMatchSpecUptoRow.holds Tryz.pinned (OpenSpec.upto frontierTrapsMatchSpecSpec)

/-- 'ephemeralaw5.FrontierSharesMatchSpec', WHERE WHAT IT READS IS OF BULK AT MOST 1048576: true; the input reads as it did. -/
def frontierSharesMatchSpecUptoRow : OpenClaim := { program := "ytnainpghpjelcaagreatdoor", sum := "c305180f9a36b4e840d24246fac485fe8b08ed0f8d2a1aef2f2a42966ed45c0b", func := "ephemera/ephemeralaw5.FrontierSharesMatchSpec", spec := "frontierSharesMatchSpec", inPlace := ["internal/bytealg.IndexByteString", "internal/bytealg.IndexString", "internal/bytealg.CountString", "internal/abi.NoEscape", "internal/bytealg.MakeNoZero"], recurses := true, named := ["internal/bytealg.MaxLen", "unicode/utf8.first", "unicode/utf8.acceptRanges", "strconv.ErrSyntax", "strconv.ErrRange", "internal/strconv.uint64pow10", "math/bits.deBruijn32tab", "math/bits.deBruijn64tab"], apart := false, laid := [("math/bits.deBruijn32tab", laid_math_bits_deBruijn32tab), ("math/bits.deBruijn64tab", laid_math_bits_deBruijn64tab), ("internal/strconv.uint64pow10", laid_internal_strconv_uint64pow10), ("unicode/utf8.acceptRanges", laid_unicode_utf8_acceptRanges), ("strconv.ErrRange", laid_strconv_ErrRange), ("strconv.ErrSyntax", laid_strconv_ErrSyntax), ("unicode/utf8.first", laid_unicode_utf8_first)], narrowed := true }
def FrontierSharesMatchSpecUptoSaid : Prop := frontierSharesMatchSpecUptoRow.holds Tryz.pinned (OpenSpec.upto frontierSharesMatchSpecSpec)

/-- 'ephemeralaw5.FrontierReadsMatchSpec', WHERE WHAT IT READS IS OF BULK AT MOST 1048576: true; the input reads as it did. -/
def frontierReadsMatchSpecUptoRow : OpenClaim := { program := "ytnainpghpjelcaagreatdoor", sum := "c305180f9a36b4e840d24246fac485fe8b08ed0f8d2a1aef2f2a42966ed45c0b", func := "ephemera/ephemeralaw5.FrontierReadsMatchSpec", spec := "frontierReadsMatchSpec", inPlace := ["internal/bytealg.IndexByteString", "internal/bytealg.IndexString", "internal/bytealg.CountString", "internal/abi.NoEscape", "internal/bytealg.MakeNoZero"], recurses := true, named := ["internal/bytealg.MaxLen", "unicode/utf8.first", "unicode/utf8.acceptRanges", "strconv.ErrSyntax", "strconv.ErrRange", "internal/strconv.uint64pow10", "math/bits.deBruijn32tab", "math/bits.deBruijn64tab"], apart := false, laid := [("math/bits.deBruijn32tab", laid_math_bits_deBruijn32tab), ("math/bits.deBruijn64tab", laid_math_bits_deBruijn64tab), ("internal/strconv.uint64pow10", laid_internal_strconv_uint64pow10), ("unicode/utf8.acceptRanges", laid_unicode_utf8_acceptRanges), ("strconv.ErrRange", laid_strconv_ErrRange), ("strconv.ErrSyntax", laid_strconv_ErrSyntax), ("unicode/utf8.first", laid_unicode_utf8_first)], narrowed := true }
def FrontierReadsMatchSpecUptoSaid : Prop := frontierReadsMatchSpecUptoRow.holds Tryz.pinned (OpenSpec.upto frontierReadsMatchSpecSpec)

/-- 'ephemeralaw5.FrontierTextsMatchSpec', WHERE WHAT IT READS IS OF BULK AT MOST 1048576: true; the input reads as it did. -/
def frontierTextsMatchSpecUptoRow : OpenClaim := { program := "ytnainpghpjelcaagreatdoor", sum := "c305180f9a36b4e840d24246fac485fe8b08ed0f8d2a1aef2f2a42966ed45c0b", func := "ephemera/ephemeralaw5.FrontierTextsMatchSpec", spec := "frontierTextsMatchSpec", inPlace := ["internal/bytealg.IndexByteString", "internal/bytealg.IndexString", "internal/bytealg.CountString", "internal/abi.NoEscape", "internal/bytealg.MakeNoZero"], unfollowed := true, recurses := true, named := ["internal/bytealg.MaxLen", "unicode/utf8.first", "unicode/utf8.acceptRanges", "internal/strconv.uint64pow10", "math/bits.deBruijn32tab", "math/bits.deBruijn64tab", "strconv.ErrSyntax", "strconv.ErrRange"], apart := false, laid := [("math/bits.deBruijn32tab", laid_math_bits_deBruijn32tab), ("math/bits.deBruijn64tab", laid_math_bits_deBruijn64tab), ("internal/strconv.uint64pow10", laid_internal_strconv_uint64pow10), ("unicode/utf8.acceptRanges", laid_unicode_utf8_acceptRanges), ("strconv.ErrRange", laid_strconv_ErrRange), ("strconv.ErrSyntax", laid_strconv_ErrSyntax), ("unicode/utf8.first", laid_unicode_utf8_first)], narrowed := true }
def FrontierTextsMatchSpecUptoSaid : Prop := frontierTextsMatchSpecUptoRow.holds Tryz.pinned (OpenSpec.upto frontierTextsMatchSpecSpec)

/-- 'ephemeralaw5.FrontierNextMatchesSpec', WHERE WHAT IT READS IS OF BULK AT MOST 1048576: true; the input reads as it did. -/
def frontierNextMatchesSpecUptoRow : OpenClaim := { program := "ytnainpghpjelcaagreatdoor", sum := "c305180f9a36b4e840d24246fac485fe8b08ed0f8d2a1aef2f2a42966ed45c0b", func := "ephemera/ephemeralaw5.FrontierNextMatchesSpec", spec := "frontierNextMatchesSpec", inPlace := ["internal/bytealg.IndexByteString", "internal/bytealg.IndexString", "internal/bytealg.CountString", "internal/abi.NoEscape", "internal/bytealg.MakeNoZero", "internal/bytealg.abigen_runtime_cmpstring"], unfollowed := true, recurses := true, named := ["internal/bytealg.MaxLen", "unicode/utf8.first", "unicode/utf8.acceptRanges", "strconv.ErrSyntax", "strconv.ErrRange", "internal/strconv.uint64pow10", "math/bits.deBruijn32tab", "math/bits.deBruijn64tab"], apart := false, laid := [("math/bits.deBruijn32tab", laid_math_bits_deBruijn32tab), ("math/bits.deBruijn64tab", laid_math_bits_deBruijn64tab), ("internal/strconv.uint64pow10", laid_internal_strconv_uint64pow10), ("unicode/utf8.acceptRanges", laid_unicode_utf8_acceptRanges), ("strconv.ErrRange", laid_strconv_ErrRange), ("strconv.ErrSyntax", laid_strconv_ErrSyntax), ("unicode/utf8.first", laid_unicode_utf8_first)], narrowed := true }
def FrontierNextMatchesSpecUptoSaid : Prop := frontierNextMatchesSpecUptoRow.holds Tryz.pinned (OpenSpec.upto frontierNextMatchesSpecSpec)

/-- 'ephemeralaw5.FrontierUrgentMatchesSpec', WHERE WHAT IT READS IS OF BULK AT MOST 1048576: true; the input reads as it did. -/
def frontierUrgentMatchesSpecUptoRow : OpenClaim := { program := "ytnainpghpjelcaagreatdoor", sum := "c305180f9a36b4e840d24246fac485fe8b08ed0f8d2a1aef2f2a42966ed45c0b", func := "ephemera/ephemeralaw5.FrontierUrgentMatchesSpec", spec := "frontierUrgentMatchesSpec", inPlace := ["internal/bytealg.IndexByteString", "internal/bytealg.IndexString", "internal/bytealg.CountString", "internal/abi.NoEscape", "internal/bytealg.MakeNoZero", "slices.overlaps[int]"], unfollowed := true, recurses := true, named := ["internal/bytealg.MaxLen", "unicode/utf8.first", "unicode/utf8.acceptRanges", "strconv.ErrSyntax", "strconv.ErrRange", "internal/strconv.uint64pow10", "math/bits.deBruijn32tab", "math/bits.deBruijn64tab"], apart := false, laid := [("math/bits.deBruijn32tab", laid_math_bits_deBruijn32tab), ("math/bits.deBruijn64tab", laid_math_bits_deBruijn64tab), ("internal/strconv.uint64pow10", laid_internal_strconv_uint64pow10), ("unicode/utf8.acceptRanges", laid_unicode_utf8_acceptRanges), ("strconv.ErrRange", laid_strconv_ErrRange), ("strconv.ErrSyntax", laid_strconv_ErrSyntax), ("unicode/utf8.first", laid_unicode_utf8_first)], narrowed := true }
def FrontierUrgentMatchesSpecUptoSaid : Prop := frontierUrgentMatchesSpecUptoRow.holds Tryz.pinned (OpenSpec.upto frontierUrgentMatchesSpecSpec)

/-- 'ephemeralaw5.FrontierAddsMatchSpec', WHERE WHAT IT READS IS OF BULK AT MOST 1048576: true; the input reads as it did. -/
def frontierAddsMatchSpecUptoRow : OpenClaim := { program := "ytnainpghpjelcaagreatdoor", sum := "c305180f9a36b4e840d24246fac485fe8b08ed0f8d2a1aef2f2a42966ed45c0b", func := "ephemera/ephemeralaw5.FrontierAddsMatchSpec", spec := "frontierAddsMatchSpec", inPlace := ["internal/bytealg.IndexByteString", "internal/bytealg.IndexString", "internal/bytealg.CountString", "internal/abi.NoEscape", "internal/bytealg.MakeNoZero", "internal/bytealg.abigen_runtime_cmpstring", "slices.overlaps[ephemera/api.Wanted]"], unfollowed := true, recurses := true, named := ["internal/bytealg.MaxLen", "unicode/utf8.first", "unicode/utf8.acceptRanges", "strconv.ErrSyntax", "strconv.ErrRange", "internal/strconv.uint64pow10", "math/bits.deBruijn32tab", "math/bits.deBruijn64tab"], apart := false, laid := [("math/bits.deBruijn32tab", laid_math_bits_deBruijn32tab), ("math/bits.deBruijn64tab", laid_math_bits_deBruijn64tab), ("internal/strconv.uint64pow10", laid_internal_strconv_uint64pow10), ("unicode/utf8.acceptRanges", laid_unicode_utf8_acceptRanges), ("strconv.ErrRange", laid_strconv_ErrRange), ("strconv.ErrSyntax", laid_strconv_ErrSyntax), ("unicode/utf8.first", laid_unicode_utf8_first)], narrowed := true }
def FrontierAddsMatchSpecUptoSaid : Prop := frontierAddsMatchSpecUptoRow.holds Tryz.pinned (OpenSpec.upto frontierAddsMatchSpecSpec)

/-- 'ephemeralaw5.FrontierTakesMatchSpec', WHERE WHAT IT READS IS OF BULK AT MOST 1048576: true; the input reads as it did. -/
def frontierTakesMatchSpecUptoRow : OpenClaim := { program := "ytnainpghpjelcaagreatdoor", sum := "c305180f9a36b4e840d24246fac485fe8b08ed0f8d2a1aef2f2a42966ed45c0b", func := "ephemera/ephemeralaw5.FrontierTakesMatchSpec", spec := "frontierTakesMatchSpec", inPlace := ["internal/bytealg.IndexByteString", "internal/bytealg.IndexString", "internal/bytealg.CountString", "internal/abi.NoEscape", "internal/bytealg.MakeNoZero", "internal/bytealg.abigen_runtime_cmpstring", "slices.overlaps[ephemera/api.Host]"], unfollowed := true, recurses := true, named := ["internal/bytealg.MaxLen", "unicode/utf8.first", "unicode/utf8.acceptRanges", "strconv.ErrSyntax", "strconv.ErrRange", "internal/strconv.uint64pow10", "math/bits.deBruijn32tab", "math/bits.deBruijn64tab"], apart := false, laid := [("math/bits.deBruijn32tab", laid_math_bits_deBruijn32tab), ("math/bits.deBruijn64tab", laid_math_bits_deBruijn64tab), ("internal/strconv.uint64pow10", laid_internal_strconv_uint64pow10), ("unicode/utf8.acceptRanges", laid_unicode_utf8_acceptRanges), ("strconv.ErrRange", laid_strconv_ErrRange), ("strconv.ErrSyntax", laid_strconv_ErrSyntax), ("unicode/utf8.first", laid_unicode_utf8_first)], narrowed := true }
def FrontierTakesMatchSpecUptoSaid : Prop := frontierTakesMatchSpecUptoRow.holds Tryz.pinned (OpenSpec.upto frontierTakesMatchSpecSpec)

/-- 'ephemeralaw5.FrontierIsPolite', WHERE WHAT IT READS IS OF BULK AT MOST 1048576: true; the input reads as it did. -/
def frontierIsPoliteUptoRow : OpenClaim := { program := "ytnainpghpjelcaagreatdoor", sum := "c305180f9a36b4e840d24246fac485fe8b08ed0f8d2a1aef2f2a42966ed45c0b", func := "ephemera/ephemeralaw5.FrontierIsPolite", spec := "frontierIsPolite", inPlace := ["internal/bytealg.IndexByteString", "internal/bytealg.IndexString", "internal/bytealg.CountString", "internal/abi.NoEscape", "internal/bytealg.MakeNoZero", "internal/bytealg.abigen_runtime_cmpstring", "slices.overlaps[ephemera/api.Host]", "slices.overlaps[ephemera/api.Wanted]"], unfollowed := true, recurses := true, named := ["internal/bytealg.MaxLen", "unicode/utf8.first", "unicode/utf8.acceptRanges", "strconv.ErrSyntax", "strconv.ErrRange", "internal/strconv.uint64pow10", "math/bits.deBruijn32tab", "math/bits.deBruijn64tab"], apart := false, laid := [("math/bits.deBruijn32tab", laid_math_bits_deBruijn32tab), ("math/bits.deBruijn64tab", laid_math_bits_deBruijn64tab), ("internal/strconv.uint64pow10", laid_internal_strconv_uint64pow10), ("unicode/utf8.acceptRanges", laid_unicode_utf8_acceptRanges), ("strconv.ErrRange", laid_strconv_ErrRange), ("strconv.ErrSyntax", laid_strconv_ErrSyntax), ("unicode/utf8.first", laid_unicode_utf8_first)], narrowed := true }
def FrontierIsPoliteUptoSaid : Prop := frontierIsPoliteUptoRow.holds Tryz.pinned (OpenSpec.upto frontierIsPoliteSpec)

end Rows
end Go.Proofs.YtnainpghpjelcaaGreatDoor
