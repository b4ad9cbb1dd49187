/-
  FRONTIER: what comes in, read as data.
-/
import Derived.Test.YtnainpghpjelcaaGreatDoorFnA
import Derived.Test.YtnainpghpjelcaaGreatDoorFrAwake
import Derived.Test.YtnainpghpjelcaaGreatDoorAdH
set_option linter.unusedSimpArgs false
set_option linter.unusedVariables false
namespace Go.Proofs.YtnainpghpjelcaaGreatDoor
open Go.Lw Go.RowKit Go.ChangeShapes Go.WideShapes Go.ChangeAt
set_option maxRecDepth 100000
set_option maxHeartbeats 1000000

def WntFits (x : Wnt) : Prop := x.1.length ≤ reachBytes ∧ inR .i64 x.2.1 ∧ inR .i64 x.2.2
theorem opn_wnt : Opn Tryz.prog 35 wntCells WntFits :=
  (opn_flds (total := 3) Tryz.underlying35 rfl (by kernel_rfl) (flds_cons (n := 1) (by kernel_rfl) (by simp) opn_sW (flds_cons (n := 1) (by kernel_rfl) (by simp) (opn_int Tryz.underlying3) (flds_cons (n := 1) (by kernel_rfl) (by simp) (opn_int Tryz.underlying3) flds_nil)))).map
    (fun x => ((x.1, x.2.1, x.2.2.1) : Wnt)) (fun _ _ => rfl) (fun _ h => ⟨h.1, h.2.1, h.2.2.1⟩)
theorem opnA_wnt : OpnA Tryz.prog 35 wntD WntFits := opnA_struct opn_wnt Tryz.underlying35
theorem opn_wnts : Opn Tryz.prog 22 (fun l : List Wnt => [wntSl l]) (fun l => l.length ≤ maxLen ∧ ∀ x ∈ l, WntFits x) :=
  (opn_slice (wnt0 : Wnt) Tryz.underlying22 (n := 3) (by kernel_rfl) (by omega) opn_wnt).map (fun l => l) (fun l _ => by simp [wntAt, wntSl]) (fun _ h => h)
theorem opn_ints : Opn Tryz.prog 48 (fun l : List Int => [intSl l]) (fun l => l.length ≤ maxLen ∧ ∀ x ∈ l, inR .i64 x) :=
  (opn_slice (0 : Int) Tryz.underlying48 (n := 1) (by kernel_rfl) (by omega) (opn_int Tryz.underlying3)).map (fun l => l) (fun l _ => by simp [intSl]) (fun _ h => h)
def HstFits (x : Hst) : Prop := x.1.length ≤ reachBytes ∧ inR .i64 x.2.1 ∧ x.2.2.2.length ≤ maxLen ∧ ∀ y ∈ x.2.2.2, inR .i64 y
theorem opn_hst : Opn Tryz.prog 92 hstCells HstFits :=
  (opn_flds (total := 4) Tryz.underlying92 rfl (by kernel_rfl) (flds_cons (n := 1) (by kernel_rfl) (by simp) opn_sW (flds_cons (n := 1) (by kernel_rfl) (by simp) (opn_int Tryz.underlying3) (flds_cons (n := 1) (by kernel_rfl) (by simp) (opn_bool Tryz.underlying4) (flds_cons (n := 1) (by kernel_rfl) (by simp) opn_ints flds_nil))))).map
    (fun x => ((x.1, x.2.1, x.2.2.1, x.2.2.2.1) : Hst)) (fun _ _ => rfl) (fun _ h => ⟨h.1, h.2.1, h.2.2.2.1.1, h.2.2.2.1.2⟩)
theorem opn_hsts : Opn Tryz.prog 23 (fun l : List Hst => [hstSl l]) (fun l => l.length ≤ maxLen ∧ ∀ x ∈ l, HstFits x) :=
  (opn_slice (hst0 : Hst) Tryz.underlying23 (n := 4) (by kernel_rfl) (by omega) opn_hst).map (fun l => l) (fun l _ => by simp [hstAt, hstSl]) (fun _ h => h)
def FrFits (f : Frt) : Prop := (f.items.length ≤ maxLen ∧ ∀ x ∈ f.items, WntFits x) ∧ (f.hosts.length ≤ maxLen ∧ ∀ x ∈ f.hosts, HstFits x) ∧ inR .i64 f.budget ∧ inR .i64 f.window
theorem opn_fr : Opn Tryz.prog 25 (fun f : Frt => [wntSl f.items, hstSl f.hosts, int f.budget, int f.window]) FrFits :=
  (opn_flds (total := 4) Tryz.underlying25 rfl (by kernel_rfl) (flds_cons (n := 1) (by kernel_rfl) (by simp) opn_wnts (flds_cons (n := 1) (by kernel_rfl) (by simp) opn_hsts (flds_cons (n := 1) (by kernel_rfl) (by simp) (opn_int Tryz.underlying3) (flds_cons (n := 1) (by kernel_rfl) (by simp) (opn_int Tryz.underlying3) flds_nil))))).map
    (fun x => (⟨x.1, x.2.1, x.2.2.1, x.2.2.2.1⟩ : Frt)) (fun _ _ => rfl) (fun _ h => ⟨h.1, h.2.1, h.2.2.1, h.2.2.2.1⟩)
theorem opnA_fr : OpnA Tryz.prog 25 frD FrFits := opnA_struct opn_fr Tryz.underlying25
theorem frOk_of {f : Frt} (h : FrFits f) : FrOk f := by
  obtain ⟨⟨h1, h2⟩, ⟨h3, h4⟩, _⟩ := h
  simp only [maxLen] at h1 h3
  refine ⟨by omega, by omega, fun j => ?_, fun j => ?_, fun j => ?_⟩
  · rcases Nat.lt_or_ge j f.items.length with hj | hj
    · simp only [wntAt, List.getElem?_eq_getElem hj, Option.getD_some]
      exact (h2 _ (List.getElem_mem hj)).1
    · simp only [wntAt, List.getElem?_eq_none hj]
      simp
  · rcases Nat.lt_or_ge j f.hosts.length with hj | hj
    · simp only [hstAt, List.getElem?_eq_getElem hj, Option.getD_some]
      exact (h4 _ (List.getElem_mem hj)).1
    · simp only [hstAt, List.getElem?_eq_none hj]
      simp
  · rcases Nat.lt_or_ge j f.hosts.length with hj | hj
    · simp only [hstAt, List.getElem?_eq_getElem hj, Option.getD_some]
      have := (h4 _ (List.getElem_mem hj)).2.2.1
      simp only [maxLen] at this
      omega
    · simp only [hstAt, List.getElem?_eq_none hj]
      simp
end Go.Proofs.YtnainpghpjelcaaGreatDoor
