/-
  ADDRESS: AddressTextsComeBack: the law's own walk. (WITH run_drawN.)
-/
import Derived.Test.YtjbabjfmcganpaaGreatDoorAdG
import Derived.Test.YtjbabjfmcganpaaGreatDoorPgLie
set_option linter.unusedSimpArgs false
set_option linter.unusedVariables false
namespace Go.Proofs.YtjbabjfmcganpaaGreatDoor
open Go.Lw Go.RowKit Go.ChangeShapes Go.WideShapes Go.ChangeAt
set_option maxRecDepth 100000
set_option maxHeartbeats 1000000

theorem opn_sW : Opn Tryz.prog 9 (fun l : Bs => [str l]) (fun l : Bs => l.length ≤ reachBytes) :=
  (opn_stringW Tryz.underlying9).map (e' := fun l : Bs => [str l]) (p' := fun l : Bs => l.length ≤ reachBytes) (fun b => b.data.toList) (fun _ _ => rfl) (fun b h => by simpa using h)
theorem opn_adr : Opn Tryz.prog 24 adrL Adr.Fits :=
  (opn_flds (total := 8) Tryz.underlying24 rfl (by kernel_rfl)
    (flds_cons (n := 1) (by kernel_rfl) (by simp) opn_sW (flds_cons (n := 1) (by kernel_rfl) (by simp) opn_sW (flds_cons (n := 1) (by kernel_rfl) (by simp) opn_sW
    (flds_cons (n := 1) (by kernel_rfl) (by simp) opn_sW (flds_cons (n := 1) (by kernel_rfl) (by simp) opn_sW (flds_cons (n := 1) (by kernel_rfl) (by simp) (opn_bool Tryz.underlying4)
    (flds_cons (n := 1) (by kernel_rfl) (by simp) opn_sW (flds_cons (n := 1) (by kernel_rfl) (by simp) (opn_bool Tryz.underlying4) flds_nil))))))))).map
    (fun x => (⟨x.1, x.2.1, x.2.2.1, x.2.2.2.1, x.2.2.2.2.1, x.2.2.2.2.2.1, x.2.2.2.2.2.2.1, x.2.2.2.2.2.2.2.1⟩ : Adr)) (fun _ _ => rfl)
    (fun x h => by
      obtain ⟨h1, h2, h3, h4, h5, _, h6, _⟩ := h
      simp only [reachBytes] at h1 h2 h3 h4 h5 h6
      exact ⟨by simp only; omega, by simp only; omega, by simp only; omega, by simp only; omega, by simp only; omega, by simp only; omega⟩)
theorem opnA_adr : OpnA Tryz.prog 24 adrD Adr.Fits := opnA_struct opn_adr Tryz.underlying24
def adrE : Adr := { Adr.zero with scheme := [104, 116, 116, 112], host := [101] }
end Go.Proofs.YtjbabjfmcganpaaGreatDoor
