/-
  FRONTIER: what comes in, read as data.
-/
import Derived.Test.YtnainpghpjelcaaGreatDoorFnA
import Derived.Test.YtnainpghpjelcaaGreatDoorFrAwake
import Derived.Test.YtnainpghpjelcaaGreatDoorAdH
import Derived.Test.YtnainpghpjelcaaGreatDoorFnS
import Derived.Test.YtnainpghpjelcaaGreatDoorFnS2
set_option linter.unusedSimpArgs false
set_option linter.unusedVariables false
namespace Go.Proofs.YtnainpghpjelcaaGreatDoor
open Go.Lw Go.RowKit Go.ChangeShapes Go.WideShapes Go.ChangeAt
set_option maxRecDepth 100000
set_option maxHeartbeats 1000000

def WntFits (x : Wnt) : Prop := x.1.length ≤ reachBytes ∧ inR .i64 x.2.1 ∧ inR .i64 x.2.2
theorem opn_wnt : Opn Tryz.prog 35 wntCells WntFits :=
  (opn_flds (total := 3) Tryz.underlying35 rfl (by kernel_rfl) (flds_cons (n := 1) (by kernel_rfl) (by simp) opn_sW (flds_cons (n := 1) (by kernel_rfl) (by simp) (opn_int Tryz.underlying3) (flds_cons (n := 1) (by kernel_rfl) (by simp) (opn_int Tryz.underlying3) flds_nil)))).map
    (fun x => ((x.1, x.2.1, x.2.2.1) : Wnt)) (fun _ _ => rfl) (fun _ h => ⟨h.1, h.2.1, h.2.2.1⟩)
theorem opn_wnts : Opn Tryz.prog 22 (fun l : List Wnt => [wntSl l]) (fun l => l.length ≤ maxLen ∧ ∀ x ∈ l, WntFits x) :=
  (opn_slice (wnt0 : Wnt) Tryz.underlying22 (n := 3) (by kernel_rfl) (by omega) opn_wnt).map (fun l => l) (fun l _ => by simp [wntAt, wntSl]) (fun _ h => h)
theorem opn_ints : Opn Tryz.prog 48 (fun l : List Int => [intSl l]) (fun l => l.length ≤ maxLen ∧ ∀ x ∈ l, inR .i64 x) :=
  (opn_slice (0 : Int) Tryz.underlying48 (n := 1) (by kernel_rfl) (by omega) (opn_int Tryz.underlying3)).map (fun l => l) (fun l _ => by simp [intSl]) (fun _ h => h)
def HstFits (x : Hst) : Prop := x.1.length ≤ reachBytes ∧ inR .i64 x.2.1 ∧ x.2.2.2.length ≤ maxLen ∧ ∀ y ∈ x.2.2.2, inR .i64 y
theorem opn_hst : Opn Tryz.prog 92 hstCells HstFits :=
  (opn_flds (total := 4) Tryz.underlying92 rfl (by kernel_rfl) (flds_cons (n := 1) (by kernel_rfl) (by simp) opn_sW (flds_cons (n := 1) (by kernel_rfl) (by simp) (opn_int Tryz.underlying3) (flds_cons (n := 1) (by kernel_rfl) (by simp) (opn_bool Tryz.underlying4) (flds_cons (n := 1) (by kernel_rfl) (by simp) opn_ints flds_nil))))).map
    (fun x => ((x.1, x.2.1, x.2.2.1, x.2.2.2.1) : Hst)) (fun _ _ => rfl) (fun _ h => ⟨h.1, h.2.1, h.2.2.2.1.1, h.2.2.2.1.2⟩)
theorem opn_hsts : Opn Tryz.prog 23 (fun l : List Hst => [hstSl l]) (fun l => l.length ≤ maxLen ∧ ∀ x ∈ l, HstFits x) :=
  (opn_slice (hst0 : Hst) Tryz.underlying23 (n := 4) (by kernel_rfl) (by omega) opn_hst).map (fun l => l) (fun l _ => by simp [hstAt, hstSl]) (fun _ h => h)
def FrFits (f : Frt) : Prop := (f.items.length ≤ maxLen ∧ ∀ x ∈ f.items, WntFits x) ∧ (f.hosts.length ≤ maxLen ∧ ∀ x ∈ f.hosts, HstFits x) ∧ inR .i64 f.budget ∧ inR .i64 f.window
theorem opn_fr : Opn Tryz.prog 25 (fun f : Frt => [wntSl f.items, hstSl f.hosts, int f.budget, int f.window]) FrFits :=
  (opn_flds (total := 4) Tryz.underlying25 rfl (by kernel_rfl) (flds_cons (n := 1) (by kernel_rfl) (by simp) opn_wnts (flds_cons (n := 1) (by kernel_rfl) (by simp) opn_hsts (flds_cons (n := 1) (by kernel_rfl) (by simp) (opn_int Tryz.underlying3) (flds_cons (n := 1) (by kernel_rfl) (by simp) (opn_int Tryz.underlying3) flds_nil))))).map
    (fun x => (⟨x.1, x.2.1, x.2.2.1, x.2.2.2.1⟩ : Frt)) (fun _ _ => rfl) (fun _ h => ⟨h.1, h.2.1, h.2.2.1, h.2.2.2.1⟩)
theorem opnA_fr : OpnA Tryz.prog 25 frD FrFits := opnA_struct opn_fr Tryz.underlying25
theorem frOk_of {f : Frt} (h : FrFits f) : FrOk f := by
  obtain ⟨⟨h1, h2⟩, ⟨h3, h4⟩, _⟩ := h
  simp only [maxLen] at h1 h3
  refine ⟨by omega, by omega, fun j => ?_, fun j => ?_, fun j => ?_⟩
  · rcases Nat.lt_or_ge j f.items.length with hj | hj
    · simp only [wntAt, List.getElem?_eq_getElem hj, Option.getD_some]
      exact (h2 _ (List.getElem_mem hj)).1
    · simp only [wntAt, List.getElem?_eq_none hj]
      simp
  · rcases Nat.lt_or_ge j f.hosts.length with hj | hj
    · simp only [hstAt, List.getElem?_eq_getElem hj, Option.getD_some]
      exact (h4 _ (List.getElem_mem hj)).1
    · simp only [hstAt, List.getElem?_eq_none hj]
      simp
  · rcases Nat.lt_or_ge j f.hosts.length with hj | hj
    · simp only [hstAt, List.getElem?_eq_getElem hj, Option.getD_some]
      have := (h4 _ (List.getElem_mem hj)).2.2.1
      simp only [maxLen] at this
      omega
    · simp only [hstAt, List.getElem?_eq_none hj]
      simp
end Go.Proofs.YtnainpghpjelcaaGreatDoor
/-
  FRONTIER: a text, read (program). (WITH run_drawN.)
-/
set_option linter.unusedSimpArgs false
set_option linter.unusedVariables false
namespace Go.Proofs.YtnainpghpjelcaaGreatDoor
open Go.Lw Go.RowKit
set_option maxRecDepth 100000
set_option maxHeartbeats 2000000

theorem cut_less {t : Bs} (h : (Lib.cut t [10]).2.2 = true) : (Lib.cut t [10]).2.1.length < t.length ∧ (Lib.cut t [10]).1.length ≤ t.length := by
  unfold Lib.cut at h ⊢
  split at h
  · rename_i h1
    have := Lib.index_room t [10] h1
    simp only [List.length_cons, List.length_nil] at this
    rw [if_pos h1]
    simp
    omega
  · cases h
/-- The lines of a text, taken one by one. -/
def frReadGo (f : Frt) (i : Nat) (t : Bs) : Option Frt × Nat :=
  if i = 0 ∨ t ≠ [] then
    if h : (Lib.cut t [10]).2.2 = true then
      match lineC f (decide (i = 0)) (Lib.split (Lib.cut t [10]).1 [32]) with
      | none => (none, i + 1)
      | some g => frReadGo g (i + 1) (Lib.cut t [10]).2.1
    else (none, i + 1)
  else (some f, 0)
termination_by t.length
decreasing_by exact (cut_less h).1
/-- What a frontier that is read has at most. -/
structure Lim (f : Frt) (i : Nat) : Prop where
  items : f.items.length ≤ i
  hosts : f.hosts.length ≤ i
  keys : ∀ x ∈ f.items, x.1.length ≤ 5000000
  names : ∀ x ∈ f.hosts, x.1.length ≤ 5000000 ∧ x.2.2.2.length ≤ 5000002
theorem split_word (s : Bs) (j : Nat) (hs : s.length ≤ 5000000) : (wat (Lib.split s [32]) j).length ≤ 5000000 := by
  rcases Nat.lt_or_ge j (Lib.split s [32]).length with h | h
  · have := split_each 32 s _ (List.getElem_mem h)
    rw [wat, List.getElem?_eq_getElem h]
    simp only [Option.getD_some]
    omega
  · rw [wat, List.getElem?_eq_none h]
    simp
theorem lineC_lim {f g : Frt} {i : Nat} {b : Bool} {s : Bs} (hl : Lim f i) (hs : s.length ≤ 5000000) (h : lineC f b (Lib.split s [32]) = some g) : Lim g (i + 1) := by
  obtain ⟨l1, l2, l3, l4⟩ := hl
  have hw := fun j => split_word s j hs
  have hsl := split_len s 32
  unfold lineC at h
  generalize Lib.split s [32] = L at h hw hsl
  split at h
  · split at h
    · cases h; exact ⟨by simp only; omega, by simp only; omega, l3, l4⟩
    · cases h
  · split at h
    · split at h
      · cases h
        refine ⟨by simp; omega, by simp only; omega, fun x hx => ?_, l4⟩
        rcases List.mem_append.1 hx with hx | hx
        · exact l3 x hx
        · obtain rfl := List.mem_singleton.1 hx
          exact hw 3
      · cases h
    · split at h
      · split at h
        · cases h
          refine ⟨by simp only; omega, by simp; omega, l3, fun x hx => ?_⟩
          rcases List.mem_append.1 hx with hx | hx
          · exact l4 x hx
          · obtain rfl := List.mem_singleton.1 hx
            exact ⟨hw 1, by simp; omega⟩
        · cases h
      · cases h
theorem lim_ok {f : Frt} {i : Nat} (h : Lim f i) (hi : i ≤ 5000001) : FrOk f := by
  obtain ⟨l1, l2, l3, l4⟩ := h
  refine ⟨by omega, by omega, fun j => ?_, fun j => ?_, fun j => ?_⟩
  · rcases Nat.lt_or_ge j f.items.length with hj | hj
    · have := l3 _ (List.getElem_mem hj)
      simp only [wntAt, List.getElem?_eq_getElem hj, Option.getD_some]
      omega
    · simp [wntAt, List.getElem?_eq_none hj]
  · rcases Nat.lt_or_ge j f.hosts.length with hj | hj
    · have := l4 _ (List.getElem_mem hj)
      simp only [hstAt, List.getElem?_eq_getElem hj, Option.getD_some]
      omega
    · simp [hstAt, List.getElem?_eq_none hj]
  · rcases Nat.lt_or_ge j f.hosts.length with hj | hj
    · have := l4 _ (List.getElem_mem hj)
      simp only [hstAt, List.getElem?_eq_getElem hj, Option.getD_some]
      omega
    · simp [hstAt, List.getElem?_eq_none hj]
theorem wnt_cells (L : List Wnt) : (fun i => (Option.map wntCells L[i]?).getD [str [], int 0, int 0]) = fun i => [str (wntAt L i).1, int (wntAt L i).2.1, int (wntAt L i).2.2] := by
  funext i
  cases h : L[i]? <;> simp [wntAt, h]
theorem hst_cells (L : List Hst) : (fun i => (Option.map hstCells L[i]?).getD [str [], int 0, tru false, noInts]) = fun i => [str (hstAt L i).1, int (hstAt L i).2.1, tru (hstAt L i).2.2.1, intSl (hstAt L i).2.2.2] := by
  funext i
  cases h : L[i]? <;> simp [hstAt, h, noInts]
/-- A frontier of nothing. -/
def frNo : D := .agg [.lit (.slice none 0 0), .lit (.slice none 0 0), int 0, int 0]
abbrev fr0 : Frt := ⟨[], [], 0, 0⟩
/-- What Read hands back. -/
def frReadD (t : Bs) : D :=
  if 5000000 < t.length then .tup [frNo, int 0, int 2]
  else match (frReadGo fr0 0 t).1 with
  | none => .tup [frNo, int (frReadGo fr0 0 t).2, int 10]
  | some f => if frE f ≠ 0 then .tup [frNo, int 0, int (frE f)] else .tup [frD f, int 0, int 0]
def LineOk : Prop := ∀ (f : Frt) (i : Nat) (s : Bs) (hs : s.length ≤ 5000000) (hi : i ≤ 5000001) (hI : f.items.length ≤ 5000001) (hH : f.hosts.length ≤ 5000001), FnMem Tryz.prog 78 [.bp 100000 0, .d (int i), .d (str s)] (frB f) (.d (tru (lineC f (decide (i = 0)) (Lib.split s [32])).isSome)) (frB ((lineC f (decide (i = 0)) (Lib.split s [32])).getD f))
theorem frRead_ok (hline : LineOk) (t : Bs) : FnOk Tryz.prog 29 [str t] (frReadD t) := by
  refine fnOk Tryz.func29 rfl (by kernel_rfl) Tryz.ntmps29 _ rfl (by simp) fun C hc => ?_
  unfold frReadD
  repeat' (first | (first | refine Ya ?_ | refine Yb ?_ | refine Yc ?_ | refine Yd ?_ | refine Ye ?_ | refine Yf ?_ | refine Yg ?_ | refine Yh ?_ | refine Yi ?_ | refine Yj ?_ | refine Yk ?_ | refine Yl ?_ | refine Ym ?_ | refine Yn ?_ | refine Yo ?_ | refine Yp (h := ?_) | refine Yq ?_ | refine Yr ?_ | refine Ys ?_ | refine Zr hc (hk := ?_) | refine Zd hc (hk := ?_) | (refine Zc (ht := fun hb => ?_) (hf := fun hb => ?_) <;> (try simp at hb)) | fail) | (first | refine Zo hc (hk := ?_) | refine Zu hc (hk := ?_) | refine Ze hc (hk := ?_) | refine Zn hc (hk := ?_) | fail))
  · rw [if_pos (by omega)]
    (refine Zl hc (hr := ?_))
    simp [frNo]
  rw [if_neg (by omega)]
  refine ewp_loop (fun x : Frt × Nat × Bs => ⟨[(0, .d (str x.2.2)), (2, .bp 2 0), (3, .d (int 0)), (4, .d (int 0)), (5, .bp 5 0), (6, .d (int x.2.1))], [(2, .box 25 [.d (.lit (.slice none 0 0)), .d (.lit (.slice none 0 0)), .d (int 0), .d (int 0)]), (5, .box 25 [.os 40000 x.1.items.length, .os 40001 x.1.hosts.length, .d (int x.1.budget), .d (int x.1.window)]),
      (40000, .own 35 3 (true, [str [], int 0, int 0]) (x.1.items.map wntCells)), (40001, .own 92 4 (true, [str [], int 0, tru false, noInts]) (x.1.hosts.map hstCells))]⟩)
    (fun x => Lim x.1 x.2.1 ∧ x.2.1 + x.2.2.length ≤ 5000000 ∧ frReadGo fr0 0 t = frReadGo x.1 x.2.1 x.2.2) (fun x => x.2.2.length) (fr0, 0, t) ⟨⟨by simp, by simp, by simp, by simp⟩, by simp; omega, rfl⟩
    (run_keepB [(5, some 0, 40000, 35, [str [], int 0, int 0]), (5, some 1, 40001, 92, [str [], int 0, tru false, noInts])] [0, 2, 3, 4, 5, 6] [2, 5, 40000, 40001] (by simp; exact Gives.mk) (by simp; exact Gives.mk) (by simp; exact Gives.mk)) ?_
  rintro ⟨f, i, u⟩ ⟨hl, hiu, hA⟩
  simp only at hl hiu hA ⊢
  rw [frReadGo.eq_def f i u] at hA
  by_cases hc0 : i = 0 ∨ u ≠ []
  · rw [if_pos hc0] at hA
    have hC := cut_ok u 10 (by omega)
    have hcl := cut_less (t := u)
    generalize Lib.cut u [10] = c at hA hC hcl
    obtain ⟨c1, c2, ok⟩ := c
    simp only at hA hC hcl
    cases ok
    · rw [dif_neg (by decide)] at hA
      rw [hA]
      clear hA hcl hline
      repeat' (first | (first | refine Ya ?_ | refine Yb ?_ | refine Yc ?_ | refine Yd ?_ | refine Ye ?_ | refine Yf ?_ | refine Yg ?_ | refine Yh ?_ | refine Yi ?_ | refine Yj ?_ | refine Yk ?_ | refine Yl ?_ | refine Ym ?_ | refine Yn ?_ | refine Yo ?_ | refine Yp (h := ?_) | refine Yq ?_ | refine Yr ?_ | refine Ys ?_ | refine Zr hc (hk := ?_) | refine Zd hc (hk := ?_) | (refine Zc (ht := fun hb => ?_) (hf := fun hb => ?_) <;> (try simp at hb)) | fail) | (first | refine run_skip hc (by simp; exact Gives.mk) (by simp) ?_ | fail) | (first | refine Zw hc (hf := by exact hC) (hk := ?_) | refine Zq hc (hf := by exact hC) (hk := ?_) | refine Zo hc (hk := ?_) | refine Zu hc (hk := ?_) | refine Ze hc (hk := ?_) | refine Zn hc (hk := ?_) | fail))
      all_goals try contradiction
      · (refine Zl hc (hr := ?_))
        simp [frNo]
      · exact absurd hb.2 (hc0.resolve_left hb.1)
    · rw [dif_pos rfl] at hA
      have hcl := hcl rfl
      have hL := hline f i c1 (by omega) (by omega) (by have := hl.items; omega) (by have := hl.hosts; omega)
      have hlm := fun g => lineC_lim (g := g) (b := decide (i = 0)) hl (s := c1) (by omega)
      generalize lineC f (decide (i = 0)) (Lib.split c1 [32]) = o at hA hL hlm
      unfold frB at hL
      cases o with
      | none =>
        simp only at hA
        rw [hA]
        simp only [Option.getD_none, Option.isSome_none] at hL
        clear hA hline
        repeat' (first | (first | refine Ya ?_ | refine Yb ?_ | refine Yc ?_ | refine Yd ?_ | refine Ye ?_ | refine Yf ?_ | refine Yg ?_ | refine Yh ?_ | refine Yi ?_ | refine Yj ?_ | refine Yk ?_ | refine Yl ?_ | refine Ym ?_ | refine Yn ?_ | refine Yo ?_ | refine Yp (h := ?_) | refine Yq ?_ | refine Yr ?_ | refine Ys ?_ | refine Zr hc (hk := ?_) | refine Zd hc (hk := ?_) | (refine Zc (ht := fun hb => ?_) (hf := fun hb => ?_) <;> (try simp at hb)) | fail) | (first | refine run_callM ([(100000, 5), (50001, 40000), (50002, 40001)]) (hL) hc (by simp; exact Gives.mk) (by simp; exact Gives.mk) (by simp; exact Gives.mk) (by simp; exact Gives.mk) (by simp; exact Gives.mk) rfl (by simp; exact Gives.mk) (by simp; exact Gives.mk) rfl (by simp) (by simp) (by simp; exact Gives.mk) (by simp; exact Gives.mk) ?_ | fail) | (first | refine Zw hc (hf := by exact hC) (hk := ?_) | refine Zq hc (hf := by exact hC) (hk := ?_) | refine Zo hc (hk := ?_) | refine Zu hc (hk := ?_) | refine Ze hc (hk := ?_) | refine Zn hc (hk := ?_) | fail))
        all_goals try contradiction
        · (refine Zl hc (hr := ?_))
          simp [frNo]
        · exact absurd hb.2 (hc0.resolve_left hb.1)
      | some g =>
        simp only at hA
        simp only [Option.getD_some, Option.isSome_some] at hL
        repeat' (first | (first | refine Ya ?_ | refine Yb ?_ | refine Yc ?_ | refine Yd ?_ | refine Ye ?_ | refine Yf ?_ | refine Yg ?_ | refine Yh ?_ | refine Yi ?_ | refine Yj ?_ | refine Yk ?_ | refine Yl ?_ | refine Ym ?_ | refine Yn ?_ | refine Yo ?_ | refine Yp (h := ?_) | refine Yq ?_ | refine Yr ?_ | refine Ys ?_ | refine Zr hc (hk := ?_) | refine Zd hc (hk := ?_) | (refine Zc (ht := fun hb => ?_) (hf := fun hb => ?_) <;> (try simp at hb)) | fail) | (first | refine run_callM ([(100000, 5), (50001, 40000), (50002, 40001)]) (hL) hc (by simp; exact Gives.mk) (by simp; exact Gives.mk) (by simp; exact Gives.mk) (by simp; exact Gives.mk) (by simp; exact Gives.mk) rfl (by simp; exact Gives.mk) (by simp; exact Gives.mk) rfl (by simp) (by simp) (by simp; exact Gives.mk) (by simp; exact Gives.mk) ?_ | fail) | (first | refine Zw hc (hf := by exact hC) (hk := ?_) | refine Zq hc (hf := by exact hC) (hk := ?_) | refine Zo hc (hk := ?_) | refine Zu hc (hk := ?_) | refine Ze hc (hk := ?_) | refine Zn hc (hk := ?_) | fail))
        all_goals try contradiction
        · exact ⟨(g, i + 1, c2), ⟨hlm g rfl, by simp only; omega, hA⟩, by simp only; omega, run_back [0, 2, 3, 4, 5, 6] [2, 5, 40000, 40001] (by simp; exact Gives.mk) (by simp; exact Gives.mk) (by simp)⟩
        · exact absurd hb.2 (hc0.resolve_left hb.1)
  · rw [if_neg hc0] at hA
    have hi0 : ¬ i = 0 := fun e => hc0 (.inl e)
    have hu0 : u = [] := Classical.byContradiction fun e => hc0 (.inr e)
    have hF := checkFr_ok f (lim_ok hl (by omega))
    rw [hA]
    simp only
    clear hA hline
    (first | refine run_sealW 40000 hc (by simp; exact Gives.mk) (by simp) ?_ | refine run_seal 40000 hc (by simp; exact Gives.mk) (by simp) ?_)
    (first | refine run_sealW 40001 hc (by simp; exact Gives.mk) (by simp) ?_ | refine run_seal 40001 hc (by simp; exact Gives.mk) (by simp) ?_)
    rw [wnt_cells, hst_cells]
    generalize frE f = e at hF ⊢
    repeat' (first | (first | refine Ya ?_ | refine Yb ?_ | refine Yc ?_ | refine Yd ?_ | refine Ye ?_ | refine Yf ?_ | refine Yg ?_ | refine Yh ?_ | refine Yi ?_ | refine Yj ?_ | refine Yk ?_ | refine Yl ?_ | refine Ym ?_ | refine Yn ?_ | refine Yo ?_ | refine Yp (h := ?_) | refine Yq ?_ | refine Yr ?_ | refine Ys ?_ | refine Zr hc (hk := ?_) | refine Zd hc (hk := ?_) | (refine Zc (ht := fun hb => ?_) (hf := fun hb => ?_) <;> (try simp at hb)) | fail) | (first | refine Zw hc (hf := by exact hF) (hk := ?_) | refine Zq hc (hf := by exact hF) (hk := ?_) | refine Zo hc (hk := ?_) | refine Zu hc (hk := ?_) | refine Ze hc (hk := ?_) | refine Zn hc (hk := ?_) | fail))
    all_goals try contradiction
    · rw [if_pos hb]
      (refine Zl hc (hr := ?_))
      simp [frNo]
    · rw [if_neg (fun h => h hb)]
      (refine Zl hc (hr := ?_))
      simp
end Go.Proofs.YtnainpghpjelcaaGreatDoor
/-
  FRONTIER: a line of a text (program): all cases. (WITH run_drawN.)
-/
set_option linter.unusedSimpArgs false
set_option linter.unusedVariables false
namespace Go.Proofs.YtnainpghpjelcaaGreatDoor
open Go.Lw Go.RowKit

theorem line_ok : LineOk := fun f i s hs hi hI hH => by
  by_cases h0 : i = 0
  · exact line_first f i s hs hi hI hH h0
  · by_cases hw : wat (Lib.split s [32]) 0 = sWant ∧ (Lib.split s [32]).length = 4 ∧ f.hosts.length = 0
    · exact line_want f i s hs hi hI hH h0 hw
    · exact line_host f i s hs hi hI hH h0 hw
end Go.Proofs.YtnainpghpjelcaaGreatDoor
