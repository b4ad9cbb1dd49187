/-
  FRONTIER: what a frontier is; its check (program). (WITH run_drawN.)
-/
import Derived.Test.YtpmfmjgnhdfakaaGreatDoorKeyH
import Derived.Test.YtpmfmjgnhdfakaaGreatDoorLb
set_option linter.unusedSimpArgs false
set_option linter.unusedVariables false
namespace Go.Proofs.YtpmfmjgnhdfakaaGreatDoor
open Go.Lw Go.RowKit
set_option maxRecDepth 100000
set_option maxHeartbeats 2000000

/-- What is wanted: its key, its rank, when it is due. -/
abbrev Wnt := Bs × Int × Int
abbrev wntCells (x : Wnt) : List D := [str x.1, int x.2.1, int x.2.2]
abbrev wntD (x : Wnt) : D := .agg [str x.1, int x.2.1, int x.2.2]
abbrev wnt0 : Wnt := ([], 0, 0)
abbrev wntAt (L : List Wnt) (j : Nat) : Wnt := L[j]?.getD wnt0
abbrev wntSl (L : List Wnt) : D := .sl L.length fun i => [str (wntAt L i).1, int (wntAt L i).2.1, int (wntAt L i).2.2]
abbrev intSl (l : List Int) : D := .sl l.length fun i => [int (l[i]?.getD 0)]
/-- A host: its name, from when it is free, whether it is busy, its starts. -/
abbrev Hst := Bs × Int × Bool × List Int
abbrev hstCells (x : Hst) : List D := [str x.1, int x.2.1, tru x.2.2.1, intSl x.2.2.2]
abbrev hstD (x : Hst) : D := .agg [str x.1, int x.2.1, tru x.2.2.1, intSl x.2.2.2]
abbrev hst0 : Hst := ([], 0, false, [])
abbrev hstAt (L : List Hst) (j : Nat) : Hst := L[j]?.getD hst0
abbrev hstSl (L : List Hst) : D := .sl L.length fun i => [str (hstAt L i).1, int (hstAt L i).2.1, tru (hstAt L i).2.2.1, intSl (hstAt L i).2.2.2]
structure Frt where
  items : List Wnt
  hosts : List Hst
  budget : Int
  window : Int
abbrev frD (f : Frt) : D := .agg [wntSl f.items, hstSl f.hosts, int f.budget, int f.window]
abbrev okM (n : Int) : Prop := 0 ≤ n ∧ n ≤ 253402300799
/-- Is a string the host of a key? -/
def isHo (s : Bs) : Bool := decide (hostC (s ++ [41, 47]) = (s, 0)) || decide (hostC (s ++ [41, 115, 47]) = (s, 0))
/-- A string isn't behind another one. -/
def wntE (x : Wnt) : Nat := if (ofK x.1).2 ≠ 0 then (ofK x.1).2 else if decide (0 ≤ x.2.1 ∧ x.2.1 ≤ 9) = false ∨ decide (okM x.2.2) = false then 1 else 0
def startsGo (l : List Int) (j : Nat) : Nat := if j < l.length then (if decide (okM (l[j]?.getD 0)) = false then 1 else if 0 < j ∧ l[j]?.getD 0 < l[j - 1]?.getD 0 then 8 else startsGo l (j + 1)) else 0
termination_by l.length - j
def startsE (l : List Int) : Nat := if 200 < l.length then 2 else startsGo l 0
def itemsGo (L : List Wnt) (j : Nat) : Nat := if j < L.length then (if wntE (wntAt L j) ≠ 0 then wntE (wntAt L j) else if 0 < j ∧ leB (wntAt L j).1 (wntAt L (j - 1)).1 then 8 else itemsGo L (j + 1)) else 0
termination_by L.length - j
def hostE (L : List Hst) (j : Nat) : Nat := if isHo (hstAt L j).1 = false then 5 else if 0 < j ∧ leB (hstAt L j).1 (hstAt L (j - 1)).1 then 8 else if decide (0 ≤ (hstAt L j).2.1 ∧ (hstAt L j).2.1 ≤ 253502300799) = false then 1 else startsE (hstAt L j).2.2.2
def hostsGo (L : List Hst) (j : Nat) : Nat := if j < L.length then (if hostE L j ≠ 0 then hostE L j else hostsGo L (j + 1)) else 0
termination_by L.length - j
/-- The fault of a frontier. -/
def frE (f : Frt) : Nat := if decide (1 ≤ f.budget ∧ f.budget ≤ 200) = false ∨ decide (1 ≤ f.window ∧ f.window ≤ 100000000) = false then 1 else if 2000 < f.items.length then 2 else if itemsGo f.items 0 ≠ 0 then itemsGo f.items 0 else if 300 < f.hosts.length then 2 else hostsGo f.hosts 0
/-- What comes in: bounds of its parts. -/
structure FrOk (f : Frt) : Prop where
  items : f.items.length ≤ 9223372036854775807
  hosts : f.hosts.length ≤ 9223372036854775807
  keys : ∀ j, (wntAt f.items j).1.length ≤ 140737488351232
  names : ∀ j, (hstAt f.hosts j).1.length ≤ 140737488351232
  starts : ∀ j, (hstAt f.hosts j).2.2.2.length ≤ 9223372036854775807
theorem not_leB {j : Nat} {a b : Bs} (h : 0 < j → Op.bytesLess a b = false ∧ ¬ a = b) : ¬ (0 < j ∧ leB a b) := fun e => by
  obtain ⟨k1, k2⟩ := h e.1
  rcases e.2 with h | h
  · rw [k1] at h; cases h
  · exact k2 h
theorem frWithin_ok (n lo hi : Int) : FnOk Tryz.prog 67 [int n, int lo, int hi] (tru (decide (lo ≤ n ∧ n ≤ hi))) := by
  refine fnOk Tryz.func67 rfl (by kernel_rfl) Tryz.ntmps67 _ rfl (by simp) fun C hc => ?_
  repeat' (first | (first | refine Ya ?_ | refine Yb ?_ | refine Yc ?_ | refine Yd ?_ | refine Ye ?_ | refine Yf ?_ | refine Yg ?_ | refine Yh ?_ | refine Yi ?_ | refine Yj ?_ | refine Yk ?_ | refine Yl ?_ | refine Ym ?_ | refine Yn ?_ | refine Yo ?_ | refine Yp (h := ?_) | refine Yq ?_ | refine Yr ?_ | refine Ys ?_ | refine Zr hc (hk := ?_) | refine Zd hc (hk := ?_) | (refine Zc (ht := fun hb => ?_) (hf := fun hb => ?_) <;> (try simp at hb)) | fail) | (first | refine Zo hc (hk := ?_) | refine Zu hc (hk := ?_) | refine Ze hc (hk := ?_) | refine Zn hc (hk := ?_) | fail))
  (refine Zl hc (hr := ?_))
  simp
theorem frMoment_ok (n : Int) : FnOk Tryz.prog 71 [int n] (tru (decide (okM n))) := by
  refine fnOk Tryz.func71 rfl (by kernel_rfl) Tryz.ntmps71 _ rfl (by simp) fun C hc => ?_
  have h := frWithin_ok n 0 253402300799
  repeat' (first | (first | refine Ya ?_ | refine Yb ?_ | refine Yc ?_ | refine Yd ?_ | refine Ye ?_ | refine Yf ?_ | refine Yg ?_ | refine Yh ?_ | refine Yi ?_ | refine Yj ?_ | refine Yk ?_ | refine Yl ?_ | refine Ym ?_ | refine Yn ?_ | refine Yo ?_ | refine Yp (h := ?_) | refine Yq ?_ | refine Yr ?_ | refine Ys ?_ | refine Zr hc (hk := ?_) | refine Zd hc (hk := ?_) | (refine Zc (ht := fun hb => ?_) (hf := fun hb => ?_) <;> (try simp at hb)) | fail) | (first | refine Zw hc (hf := by exact h) (hk := ?_) | refine Zq hc (hf := by exact h) (hk := ?_) | refine Zo hc (hk := ?_) | refine Zu hc (hk := ?_) | refine Ze hc (hk := ?_) | refine Zn hc (hk := ?_) | fail))
  (refine Zl hc (hr := ?_))
  simp
theorem frHost_ok (s : Bs) (hm : s.length ≤ 140737488351232) : FnOk Tryz.prog 68 [str s] (tru (isHo s)) := by
  refine fnOk Tryz.func68 rfl (by kernel_rfl) Tryz.ntmps68 _ rfl (by simp) fun C hc => ?_
  have h1 := hostF_ok (s ++ [41, 47]) (by simp; omega)
  have h2 := hostF_ok (s ++ [41, 115, 47]) (by simp; omega)
  unfold isHo
  generalize hostC (s ++ [41, 47]) = x at h1 ⊢
  generalize hostC (s ++ [41, 115, 47]) = y at h2 ⊢
  obtain ⟨x1, x2⟩ := x
  obtain ⟨y1, y2⟩ := y
  simp only at h1 h2
  repeat' (first | (first | refine Ya ?_ | refine Yb ?_ | refine Yc ?_ | refine Yd ?_ | refine Ye ?_ | refine Yf ?_ | refine Yg ?_ | refine Yh ?_ | refine Yi ?_ | refine Yj ?_ | refine Yk ?_ | refine Yl ?_ | refine Ym ?_ | refine Yn ?_ | refine Yo ?_ | refine Yp (h := ?_) | refine Yq ?_ | refine Yr ?_ | refine Ys ?_ | refine Zr hc (hk := ?_) | refine Zd hc (hk := ?_) | (refine Zc (ht := fun hb => ?_) (hf := fun hb => ?_) <;> (try simp at hb)) | fail) | (first | refine Zo hc (hk := ?_) | refine Zu hc (hk := ?_) | refine Ze hc (hk := ?_) | refine Zn hc (hk := ?_) | fail))
  (first | refine run_sealW 7 hc (by simp; exact Gives.mk) (by simp) ?_ | refine run_seal 7 hc (by simp; exact Gives.mk) (by simp) ?_)
  refine ewp_loop (fun j : Nat => ⟨[(0, .d (str s)), (7, .d (.sl 2 fun i => [[str [41, 47]], [str [41, 115, 47]]][i]?.getD [str []])), (8, .d (int 2)), (9, .d (int j))], []⟩) (fun j => j ≤ 2 ∧ (1 ≤ j → ¬ (x2 = 0 ∧ x1 = s)) ∧ (2 ≤ j → ¬ (y2 = 0 ∧ y1 = s))) (fun j => 2 - j) 0 (by simp) (run_keep [0, 7, 8, 9] [] (by simp; exact Gives.mk) (by simp; exact Gives.mk)) ?_
  rintro j ⟨hj, g1, g2⟩
  match j, hj with
  | 0, _ =>
    repeat' (first | (first | refine Ya ?_ | refine Yb ?_ | refine Yc ?_ | refine Yd ?_ | refine Ye ?_ | refine Yf ?_ | refine Yg ?_ | refine Yh ?_ | refine Yi ?_ | refine Yj ?_ | refine Yk ?_ | refine Yl ?_ | refine Ym ?_ | refine Yn ?_ | refine Yo ?_ | refine Yp (h := ?_) | refine Yq ?_ | refine Yr ?_ | refine Ys ?_ | refine Zr hc (hk := ?_) | refine Zd hc (hk := ?_) | (refine Zc (ht := fun hb => ?_) (hf := fun hb => ?_) <;> (try simp at hb)) | fail) | (first | refine Zw hc (hf := by exact h1) (hk := ?_) | refine Zq hc (hf := by exact h1) (hk := ?_) | refine Zo hc (hk := ?_) | refine Zu hc (hk := ?_) | refine Ze hc (hk := ?_) | refine Zn hc (hk := ?_) | fail))
    all_goals try (exfalso; omega)
    · (refine Zl hc (hr := ?_))
      simp [hb.1, hb.2]
    · exact ⟨1, ⟨by omega, fun _ e => by simp_all, fun h => by omega⟩, by omega, run_back [0, 7, 8, 9] [] (by simp; exact Gives.mk) (by simp; exact Gives.mk) (by simp)⟩
  | 1, _ =>
    repeat' (first | (first | refine Ya ?_ | refine Yb ?_ | refine Yc ?_ | refine Yd ?_ | refine Ye ?_ | refine Yf ?_ | refine Yg ?_ | refine Yh ?_ | refine Yi ?_ | refine Yj ?_ | refine Yk ?_ | refine Yl ?_ | refine Ym ?_ | refine Yn ?_ | refine Yo ?_ | refine Yp (h := ?_) | refine Yq ?_ | refine Yr ?_ | refine Ys ?_ | refine Zr hc (hk := ?_) | refine Zd hc (hk := ?_) | (refine Zc (ht := fun hb => ?_) (hf := fun hb => ?_) <;> (try simp at hb)) | fail) | (first | refine Zw hc (hf := by exact h2) (hk := ?_) | refine Zq hc (hf := by exact h2) (hk := ?_) | refine Zo hc (hk := ?_) | refine Zu hc (hk := ?_) | refine Ze hc (hk := ?_) | refine Zn hc (hk := ?_) | fail))
    all_goals try (exfalso; omega)
    · (refine Zl hc (hr := ?_))
      simp [hb.1, hb.2]
    · exact ⟨2, ⟨by omega, fun _ => g1 (by omega), fun _ e => by simp_all⟩, by omega, run_back [0, 7, 8, 9] [] (by simp; exact Gives.mk) (by simp; exact Gives.mk) (by simp)⟩
  | 2, _ =>
    repeat' (first | (first | refine Ya ?_ | refine Yb ?_ | refine Yc ?_ | refine Yd ?_ | refine Ye ?_ | refine Yf ?_ | refine Yg ?_ | refine Yh ?_ | refine Yi ?_ | refine Yj ?_ | refine Yk ?_ | refine Yl ?_ | refine Ym ?_ | refine Yn ?_ | refine Yo ?_ | refine Yp (h := ?_) | refine Yq ?_ | refine Yr ?_ | refine Ys ?_ | refine Zr hc (hk := ?_) | refine Zd hc (hk := ?_) | (refine Zc (ht := fun hb => ?_) (hf := fun hb => ?_) <;> (try simp at hb)) | fail) | (first | refine Zo hc (hk := ?_) | refine Zu hc (hk := ?_) | refine Ze hc (hk := ?_) | refine Zn hc (hk := ?_) | fail))
    all_goals try (exfalso; omega)
    have k1 := g1 (by omega)
    have k2 := g2 (by omega)
    (refine Zl hc (hr := ?_))
    refine res_bool ?_
    have e1 : decide ((x1, x2) = (s, 0)) = false := decide_eq_false fun e => k1 ⟨(Prod.mk.inj e).2, (Prod.mk.inj e).1⟩
    have e2 : decide ((y1, y2) = (s, 0)) = false := decide_eq_false fun e => k2 ⟨(Prod.mk.inj e).2, (Prod.mk.inj e).1⟩
    rw [e1, e2]
    rfl
theorem checkWanted_ok (x : Wnt) (hm : x.1.length ≤ 9223372036854775807) : FnOk Tryz.prog 30 [wntD x] (int (wntE x)) := by
  refine fnOk Tryz.func30 rfl (by kernel_rfl) Tryz.ntmps30 _ rfl (by simp) fun C hc => ?_
  obtain ⟨k, r, d⟩ := x
  have hm' : k.length ≤ 9223372036854775807 := hm
  have h1 := ofKeyF_ok k hm'
  have h2 := frWithin_ok r 0 9
  have h3 := frMoment_ok d
  unfold wntE
  simp only
  generalize ofK k = y at h1 ⊢
  generalize decide (0 ≤ r ∧ r ≤ 9) = w1 at h2 ⊢
  generalize decide (okM d) = w2 at h3 ⊢
  repeat' (first | (first | refine Ya ?_ | refine Yb ?_ | refine Yc ?_ | refine Yd ?_ | refine Ye ?_ | refine Yf ?_ | refine Yg ?_ | refine Yh ?_ | refine Yi ?_ | refine Yj ?_ | refine Yk ?_ | refine Yl ?_ | refine Ym ?_ | refine Yn ?_ | refine Yo ?_ | refine Yp (h := ?_) | refine Yq ?_ | refine Yr ?_ | refine Ys ?_ | refine Zr hc (hk := ?_) | refine Zd hc (hk := ?_) | (refine Zc (ht := fun hb => ?_) (hf := fun hb => ?_) <;> (try simp at hb)) | fail) | (first | refine Zw hc (hf := by first | exact h1 | exact h2 | exact h3) (hk := ?_) | refine Zq hc (hf := by first | exact h1 | exact h2 | exact h3) (hk := ?_) | refine Zo hc (hk := ?_) | refine Zu hc (hk := ?_) | refine Ze hc (hk := ?_) | refine Zn hc (hk := ?_) | fail))
  · rw [if_pos hb]
    (refine Zl hc (hr := ?_))
    simp
  · rename_i g
    rw [if_neg (fun h => h g), if_pos hb]
    (refine Zl hc (hr := ?_))
    simp
  · rename_i g
    rw [if_neg (fun h => h g), if_neg (by simp [hb.1, hb.2])]
    (refine Zl hc (hr := ?_))
    simp
theorem checkStarts_ok (l : List Int) (hm : l.length ≤ 9223372036854775807) : FnOk Tryz.prog 69 [intSl l] (int (startsE l)) := by
  refine fnOk Tryz.func69 rfl (by kernel_rfl) Tryz.ntmps69 _ rfl (by simp) fun C hc => ?_
  unfold startsE
  repeat' (first | (first | refine Ya ?_ | refine Yb ?_ | refine Yc ?_ | refine Yd ?_ | refine Ye ?_ | refine Yf ?_ | refine Yg ?_ | refine Yh ?_ | refine Yi ?_ | refine Yj ?_ | refine Yk ?_ | refine Yl ?_ | refine Ym ?_ | refine Yn ?_ | refine Yo ?_ | refine Yp (h := ?_) | refine Yq ?_ | refine Yr ?_ | refine Ys ?_ | refine Zr hc (hk := ?_) | refine Zd hc (hk := ?_) | (refine Zc (ht := fun hb => ?_) (hf := fun hb => ?_) <;> (try simp at hb)) | fail) | (first | refine Zo hc (hk := ?_) | refine Zu hc (hk := ?_) | refine Ze hc (hk := ?_) | refine Zn hc (hk := ?_) | fail))
  · rw [if_pos (by omega)]
    (refine Zl hc (hr := ?_))
    simp
  · rw [if_neg (by omega)]
    refine ewp_loop (fun j : Nat => ⟨[(0, .d (intSl l)), (8, .d (intSl l)), (9, .d (int l.length)), (10, .d (int j))], []⟩) (fun j => j ≤ l.length ∧ startsGo l 0 = startsGo l j) (fun j => l.length - j) 0 (by simp) (run_keep [0, 8, 9, 10] [] (by simp; exact Gives.mk) (by simp; exact Gives.mk)) ?_
    rintro j ⟨hj, hA⟩
    have hst : startsGo l j = if j < l.length then (if decide (okM (l[j]?.getD 0)) = false then 1 else if 0 < j ∧ l[j]?.getD 0 < l[j - 1]?.getD 0 then 8 else startsGo l (j + 1)) else 0 := by rw [startsGo]
    have h1 := frMoment_ok (l[j]?.getD 0)
    generalize decide (okM (l[j]?.getD 0)) = w at h1 hst
    repeat' (first | (first | refine Ya ?_ | refine Yb ?_ | refine Yc ?_ | refine Yd ?_ | refine Ye ?_ | refine Yf ?_ | refine Yg ?_ | refine Yh ?_ | refine Yi ?_ | refine Yj ?_ | refine Yk ?_ | refine Yl ?_ | refine Ym ?_ | refine Yn ?_ | refine Yo ?_ | refine Yp (h := ?_) | refine Yq ?_ | refine Yr ?_ | refine Ys ?_ | refine Zr hc (hk := ?_) | refine Zd hc (hk := ?_) | (refine Zc (ht := fun hb => ?_) (hf := fun hb => ?_) <;> (try simp at hb)) | fail) | (first | refine Zw hc (hf := by exact h1) (hk := ?_) | refine Zq hc (hf := by exact h1) (hk := ?_) | refine Zo hc (hk := ?_) | refine Zu hc (hk := ?_) | refine Ze hc (hk := ?_) | refine Zn hc (hk := ?_) | fail))
    · rw [hA, hst, if_pos (by assumption), if_pos hb]
      (refine Zl hc (hr := ?_))
      simp
    · rename_i g
      rw [hA, hst, if_pos (by assumption), if_neg (by simp [g]), if_pos hb]
      (refine Zl hc (hr := ?_))
      simp
    · rename_i g
      exact ⟨j + 1, ⟨by omega, by rw [hA, hst, if_pos (by assumption), if_neg (by simp [g]), if_neg (fun h => by have := hb h.1; omega)]⟩, by omega, run_back [0, 8, 9, 10] [] (by simp; exact Gives.mk) (by simp; exact Gives.mk) (by simp)⟩
    · rw [hA, hst, if_neg (by omega)]
      (refine Zl hc (hr := ?_))
      simp
theorem checkFr_ok (f : Frt) (hf : FrOk f) : FnOk Tryz.prog 29 [frD f] (int (frE f)) := by
  refine fnOk Tryz.func29 rfl (by kernel_rfl) Tryz.ntmps29 _ rfl (by simp) fun C hc => ?_
  obtain ⟨I, H, bu, wi⟩ := f
  obtain ⟨i1, i2, i3, i4, i5⟩ := hf
  simp only at i1 i2 i3 i4 i5
  have h1 := frWithin_ok bu 1 200
  have h2 := frWithin_ok wi 1 100000000
  unfold frE
  simp only
  generalize decide (1 ≤ bu ∧ bu ≤ 200) = w1 at h1 ⊢
  generalize decide (1 ≤ wi ∧ wi ≤ 100000000) = w2 at h2 ⊢
  repeat' (first | (first | refine Ya ?_ | refine Yb ?_ | refine Yc ?_ | refine Yd ?_ | refine Ye ?_ | refine Yf ?_ | refine Yg ?_ | refine Yh ?_ | refine Yi ?_ | refine Yj ?_ | refine Yk ?_ | refine Yl ?_ | refine Ym ?_ | refine Yn ?_ | refine Yo ?_ | refine Yp (h := ?_) | refine Yq ?_ | refine Yr ?_ | refine Ys ?_ | refine Zr hc (hk := ?_) | refine Zd hc (hk := ?_) | (refine Zc (ht := fun hb => ?_) (hf := fun hb => ?_) <;> (try simp at hb)) | fail) | (first | refine Zw hc (hf := by first | exact h1 | exact h2) (hk := ?_) | refine Zq hc (hf := by first | exact h1 | exact h2) (hk := ?_) | refine Zo hc (hk := ?_) | refine Zu hc (hk := ?_) | refine Ze hc (hk := ?_) | refine Zn hc (hk := ?_) | fail))
  · rw [if_pos hb]
    (refine Zl hc (hr := ?_))
    simp
  · rename_i g1
    rw [if_neg (by simp [g1.1, g1.2]), if_pos (by omega)]
    (refine Zl hc (hr := ?_))
    simp
  · rename_i g1
    rw [if_neg (by simp [g1.1, g1.2]), if_neg (by omega)]
    refine ewp_loop (fun j : Nat => ⟨[(1, .bp 1 0), (24, .d (wntSl I)), (25, .d (int I.length)), (26, .d (int j))], [(1, .box 39 [.d (wntSl I), .d (hstSl H), .d (int bu), .d (int wi)])]⟩) (fun j => j ≤ I.length ∧ itemsGo I 0 = itemsGo I j) (fun j => I.length - j) 0 (by simp) (run_keep [1, 24, 25, 26] [1] (by simp; exact Gives.mk) (by simp; exact Gives.mk)) ?_
    rintro j ⟨hj, hA⟩
    have hst : itemsGo I j = if j < I.length then (if wntE (wntAt I j) ≠ 0 then wntE (wntAt I j) else if 0 < j ∧ leB (wntAt I j).1 (wntAt I (j - 1)).1 then 8 else itemsGo I (j + 1)) else 0 := by rw [itemsGo]
    have h3 := checkWanted_ok (wntAt I j) (by have := i3 j; omega)
    generalize wntE (wntAt I j) = e at h3 hst
    clear h1 h2 g1
    repeat' (first | (first | refine Ya ?_ | refine Yb ?_ | refine Yc ?_ | refine Yd ?_ | refine Ye ?_ | refine Yf ?_ | refine Yg ?_ | refine Yh ?_ | refine Yi ?_ | refine Yj ?_ | refine Yk ?_ | refine Yl ?_ | refine Ym ?_ | refine Yn ?_ | refine Yo ?_ | refine Yp (h := ?_) | refine Yq ?_ | refine Yr ?_ | refine Ys ?_ | refine Zr hc (hk := ?_) | refine Zd hc (hk := ?_) | (refine Zc (ht := fun hb => ?_) (hf := fun hb => ?_) <;> (try simp at hb)) | fail) | (first | refine Zw hc (hf := by exact h3) (hk := ?_) | refine Zq hc (hf := by exact h3) (hk := ?_) | refine Zo hc (hk := ?_) | refine Zu hc (hk := ?_) | refine Ze hc (hk := ?_) | refine Zn hc (hk := ?_) | fail))
    · rw [if_pos (by assumption), if_pos hb] at hst
      rw [hA, hst, if_pos hb]
      (refine Zl hc (hr := ?_))
      simp
    · rename_i g
      rw [if_pos (by assumption), if_neg (fun h => h g), if_pos hb] at hst
      rw [hA, hst, if_pos (by decide)]
      (refine Zl hc (hr := ?_))
      simp
    · rename_i g
      rw [if_pos (by assumption), if_neg (fun h => h g), if_neg (fun h => by
        obtain ⟨k1, k2⟩ := hb h.1
        rcases h.2 with h | h
        · rw [k1] at h; cases h
        · exact k2 h)] at hst
      exact ⟨j + 1, ⟨by omega, by rw [hA, hst]⟩, by omega, run_back [1, 24, 25, 26] [1] (by simp; exact Gives.mk) (by simp; exact Gives.mk) (by simp)⟩
    · rw [if_neg (by omega)] at hst
      rw [hA, hst, if_neg (fun h => h rfl), if_pos (by omega)]
      (refine Zl hc (hr := ?_))
      simp
    · rw [if_neg (by omega)] at hst
      rw [hA, hst, if_neg (fun h => h rfl), if_neg (by omega)]
      clear hst hA h3
      refine ewp_loop (fun j : Nat => ⟨[(1, .bp 1 0), (56, .d (hstSl H)), (57, .d (int H.length)), (58, .d (int j))], [(1, .box 39 [.d (wntSl I), .d (hstSl H), .d (int bu), .d (int wi)])]⟩) (fun j => j ≤ H.length ∧ hostsGo H 0 = hostsGo H j) (fun j => H.length - j) 0 (by simp) (run_keep [1, 56, 57, 58] [1] (by simp; exact Gives.mk) (by simp; exact Gives.mk)) ?_
      rintro k ⟨hk, hB⟩
      have hst : hostsGo H k = if k < H.length then (if hostE H k ≠ 0 then hostE H k else hostsGo H (k + 1)) else 0 := by rw [hostsGo]
      have h4 := frHost_ok (hstAt H k).1 (i4 k)
      have h5 := frWithin_ok (hstAt H k).2.1 0 253502300799
      have h6 := checkStarts_ok (hstAt H k).2.2.2 (i5 k)
      generalize hE : hostE H k = e2 at hst
      unfold hostE at hE
      generalize isHo (hstAt H k).1 = w3 at h4 hE
      generalize decide (0 ≤ (hstAt H k).2.1 ∧ (hstAt H k).2.1 ≤ 253502300799) = w4 at h5 hE
      generalize startsE (hstAt H k).2.2.2 = e3 at h6 hE
      repeat' (first | (first | refine Ya ?_ | refine Yb ?_ | refine Yc ?_ | refine Yd ?_ | refine Ye ?_ | refine Yf ?_ | refine Yg ?_ | refine Yh ?_ | refine Yi ?_ | refine Yj ?_ | refine Yk ?_ | refine Yl ?_ | refine Ym ?_ | refine Yn ?_ | refine Yo ?_ | refine Yp (h := ?_) | refine Yq ?_ | refine Yr ?_ | refine Ys ?_ | refine Zr hc (hk := ?_) | refine Zd hc (hk := ?_) | (refine Zc (ht := fun hb => ?_) (hf := fun hb => ?_) <;> (try simp at hb)) | fail) | (first | refine Zw hc (hf := by first | exact h4 | exact h5 | exact h6) (hk := ?_) | refine Zq hc (hf := by first | exact h4 | exact h5 | exact h6) (hk := ?_) | refine Zo hc (hk := ?_) | refine Zu hc (hk := ?_) | refine Ze hc (hk := ?_) | refine Zn hc (hk := ?_) | fail))
      · rw [if_pos hb] at hE
        subst hE
        rw [if_pos (by assumption), if_pos (by decide)] at hst
        rw [hB, hst]
        (refine Zl hc (hr := ?_))
        simp
      · rename_i g1
        rw [if_neg (by simp [g1]), if_pos hb] at hE
        subst hE
        rw [if_pos (by assumption), if_pos (by decide)] at hst
        rw [hB, hst]
        (refine Zl hc (hr := ?_))
        simp
      · rename_i g1 g2
        rw [if_neg (by simp [g1]), if_neg (not_leB g2), if_pos hb] at hE
        subst hE
        rw [if_pos (by assumption), if_pos (by decide)] at hst
        rw [hB, hst]
        (refine Zl hc (hr := ?_))
        simp
      · rename_i g1 g2 g3
        rw [if_neg (by simp [g1]), if_neg (not_leB g2), if_neg (by simp [g3])] at hE
        subst hE
        rw [if_pos (by assumption), if_pos hb] at hst
        rw [hB, hst]
        (refine Zl hc (hr := ?_))
        simp
      · rename_i g1 g2 g3
        rw [if_neg (by simp [g1]), if_neg (not_leB g2), if_neg (by simp [g3])] at hE
        subst hE
        rw [if_pos (by assumption), if_neg (fun h => h hb)] at hst
        exact ⟨k + 1, ⟨by omega, by rw [hB, hst]⟩, by omega, run_back [1, 56, 57, 58] [1] (by simp; exact Gives.mk) (by simp; exact Gives.mk) (by simp)⟩
      · rw [if_neg (by omega)] at hst
        rw [hB, hst]
        (refine Zl hc (hr := ?_))
        simp
end Go.Proofs.YtpmfmjgnhdfakaaGreatDoor
