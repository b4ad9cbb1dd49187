/-
  DOMAINS: CheckSuffixes, suffix, Domain. (WITH run_drawN.)
-/
import Derived.Test.YtjbabjfmcganpaaGreatDoorAdI
import Derived.Test.YtjbabjfmcganpaaGreatDoorAdU
import Derived.Test.YtjbabjfmcganpaaGreatDoorLwFlt
set_option linter.unusedSimpArgs false
set_option linter.unusedVariables false
namespace Go.Proofs.YtjbabjfmcganpaaGreatDoor
open Go.Lw Go.RowKit
set_option maxRecDepth 100000
set_option maxHeartbeats 1000000

def cutP (s p : Bs) : Bs := if p <+: s then s.drop p.length else s
/-! The suffix. -/
theorem below_drewN (w : World) : ∀ n, Below w.heap.size w (w.drewN n)
  | 0 => by rw [World.drewN_zero]; exact Below.refl _ _
  | n + 1 => by rw [← World.drew_drewN]; exact Below.drew (below_drewN w n)
theorem cut_ok (s : Bs) (c : UInt8) (hs : s.length < 4294967281) : FnOk Tryz.prog 104 [str s, str [c]] (.tup [str (Lib.cut s [c]).1, str (Lib.cut s [c]).2.1, tru (Lib.cut s [c]).2.2]) :=
  ⟨by kernel_rfl, fun ok w vs _ hstd ha => by
    have h0 : ArgsRd w ok ([Value.string (bs s), Value.string (bs [c])].map D.lit) vs := ha
    obtain rfl : vs = #[.string (bs s), .string (bs [c])] := lits_rd h0
    obtain ⟨m, hm⟩ := hstd.2.1 0 3 .i64 (by kernel_rfl) (by kernel_rfl)
    refine (Tryz.strings_Cut (bs s) (bs [c]) m w (by simpa using hs) hm).mono fun e w' ⟨he, n, hw⟩ => ⟨_, he, ?_, ?_⟩
    · exact hw ▸ below_drewN w n
    · exact .tup _ _ (fun i => (#[Value.string (bs (Lib.cut s [c]).1), .string (bs (Lib.cut s [c]).2.1), .bool (Lib.cut s [c]).2.2])[i]?.getD undef) rfl (fun i hi => by
        match i, hi with
        | 0, _ => rfl
        | 1, _ => rfl
        | 2, _ => rfl) (fun i d hd => by
        match i, hd with
        | 0, hd => cases hd; exact .lit _
        | 1, hd => cases hd; exact .lit _
        | 2, hd => cases hd; exact .lit _)⟩
end Go.Proofs.YtjbabjfmcganpaaGreatDoor
/-
  DOMAINS: Domain. (WITH run_drawN.)
-/
set_option linter.unusedSimpArgs false
set_option linter.unusedVariables false
namespace Go.Proofs.YtjbabjfmcganpaaGreatDoor
open Go.Lw Go.RowKit
set_option maxRecDepth 100000
set_option maxHeartbeats 1000000

@[simp] def domD (x : Bs × Bool × Nat) : D := .tup [str x.1, tru x.2.1, int x.2.2]
end Go.Proofs.YtjbabjfmcganpaaGreatDoor
