/-
  ADDRESS: AddressDomainsEnd: the law's own walk. (WITH run_drawN.)
-/
import Derived.Test.YtjbabjfmcganpaaGreatDoorAdW
import Derived.Test.YtjbabjfmcganpaaGreatDoorAdH
set_option linter.unusedSimpArgs false
set_option linter.unusedVariables false
namespace Go.Proofs.YtjbabjfmcganpaaGreatDoor
open Go.Lw Go.RowKit Go.ChangeShapes Go.WideShapes Go.ChangeAt
set_option maxRecDepth 100000
set_option maxHeartbeats 1000000

theorem hasSuffix_ok (s p : Bs) (hm : s.length ≤ 9223372036854775807) : FnOk Tryz.prog 78 [str s, str p] (tru (p.isSuffixOf s)) :=
  fnOk_lits [.string (bs s), .string (bs p)] (by kernel_rfl) fun w _ => Tryz.strings_HasSuffix (bs s) (bs p) w (by simpa using hm)
end Go.Proofs.YtjbabjfmcganpaaGreatDoor
