/-
  THE LIBRARY's CONTRACTS, off the shelf: prefixes, bytes in strings.
-/
import Derived.Test.YtgebkjngnfdeiaaDoorStr
namespace Go.Proofs.YtgebkjngnfdeiaaDoor
open Go.Lw
set_option maxRecDepth 100000

theorem hasPrefix_ok (s p : Bs) : FnOk Tryd.prog 23 [str s, str p] (tru (p.isPrefixOf s)) :=
  fnOk_lits [.string (bs s), .string (bs p)] (by kernel_rfl) fun w _ => Tryd.strings_HasPrefix (bs s) (bs p) w
theorem indexByte_ok (s : Bs) (c : UInt8) : FnOk Tryd.prog 43 [str s, u8 c] (int (Lib.indexByte s c)) :=
  fnOk_lits [.string (bs s), .int .u8 (c.toNat : Int)] (by kernel_rfl) fun w _ => by
    have h := Tryd.strings_IndexByte (bs s) (c.toNat : Int) w
    simpa using h
end Go.Proofs.YtgebkjngnfdeiaaDoor
