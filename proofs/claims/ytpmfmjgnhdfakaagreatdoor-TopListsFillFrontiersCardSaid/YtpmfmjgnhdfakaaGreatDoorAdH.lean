/-
  ADDRESS: AddressTextsComeBack: the law's own walk. (WITH run_drawN.)
-/
import Derived.Test.YtpmfmjgnhdfakaaGreatDoorAdG
import Derived.Test.YtpmfmjgnhdfakaaGreatDoorLaw0
set_option linter.unusedSimpArgs false
set_option linter.unusedVariables false
namespace Go.Proofs.YtpmfmjgnhdfakaaGreatDoor
open Go.Lw Go.RowKit Go.ChangeShapes Go.WideShapes Go.ChangeAt
set_option maxRecDepth 100000
set_option maxHeartbeats 1000000

theorem opn_sW : Opn Tryz.prog 9 (fun l : Bs => [str l]) (fun l : Bs => l.length ≤ reachBytes) :=
  (opn_stringW Tryz.underlying9).map (e' := fun l : Bs => [str l]) (p' := fun l : Bs => l.length ≤ reachBytes) (fun b => b.data.toList) (fun _ _ => rfl) (fun b h => by simpa using h)
theorem opn_adr : Opn Tryz.prog 26 adrL Adr.Fits :=
  (opn_flds (total := 8) Tryz.underlying26 rfl (by kernel_rfl)
    (flds_cons (n := 1) (by kernel_rfl) (by simp) opn_sW (flds_cons (n := 1) (by kernel_rfl) (by simp) opn_sW (flds_cons (n := 1) (by kernel_rfl) (by simp) opn_sW
    (flds_cons (n := 1) (by kernel_rfl) (by simp) opn_sW (flds_cons (n := 1) (by kernel_rfl) (by simp) opn_sW (flds_cons (n := 1) (by kernel_rfl) (by simp) (opn_bool Tryz.underlying4)
    (flds_cons (n := 1) (by kernel_rfl) (by simp) opn_sW (flds_cons (n := 1) (by kernel_rfl) (by simp) (opn_bool Tryz.underlying4) flds_nil))))))))).map
    (fun x => (⟨x.1, x.2.1, x.2.2.1, x.2.2.2.1, x.2.2.2.2.1, x.2.2.2.2.2.1, x.2.2.2.2.2.2.1, x.2.2.2.2.2.2.2.1⟩ : Adr)) (fun _ _ => rfl)
    (fun x h => by
      obtain ⟨h1, h2, h3, h4, h5, _, h6, _⟩ := h
      simp only [reachBytes] at h1 h2 h3 h4 h5 h6
      exact ⟨by simp only; omega, by simp only; omega, by simp only; omega, by simp only; omega, by simp only; omega, by simp only; omega⟩)
theorem opnA_adr : OpnA Tryz.prog 26 adrD Adr.Fits := opnA_struct opn_adr Tryz.underlying26
def adrE : Adr := { Adr.zero with scheme := [104, 116, 116, 112], host := [101] }
theorem chk_fits {b : Adr} (h : chkC b = 0) : b.Fits := by
  obtain ⟨h1, h2⟩ := (chk_iff b).1 h
  have hq : b.query.length ≤ (qPart b).length := by
    unfold qPart
    split
    · simp
    · rename_i e
      have : b.query = [] := Classical.byContradiction fun x => e (h1.hasQ x)
      simp [this]
  have hg : b.frag.length ≤ (fPart b).length := by
    unfold fPart
    split
    · simp
    · rename_i e
      have : b.frag = [] := Classical.byContradiction fun x => e (h1.hasF x)
      simp [this]
  have hp : b.port.length ≤ (pPart b).length := by
    unfold pPart
    split
    · rename_i e; simp [e]
    · simp
  have hl : (writeA b).length = b.scheme.length + 3 + b.host.length + (pPart b).length + (b.path.length + (qPart b).length + (fPart b).length) := by
    simp [writeA, behindA]; omega
  exact ⟨by omega, by omega, by omega, by omega, by omega, by omega⟩
end Go.Proofs.YtpmfmjgnhdfakaaGreatDoor
