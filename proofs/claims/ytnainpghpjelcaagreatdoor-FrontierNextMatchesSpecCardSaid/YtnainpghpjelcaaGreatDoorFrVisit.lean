/-
  FRONTIER: visits, periods: what the functions compute.
-/
import Derived.Test.YtnainpghpjelcaaGreatDoorLibS
set_option linter.unusedSimpArgs false
set_option linter.unusedVariables false
namespace Go.Proofs.YtnainpghpjelcaaGreatDoor
open Go.Lw
set_option maxRecDepth 100000
set_option maxHeartbeats 400000

/-! The plain functions. -/
abbrev Vis := Int × Bool
def encVis (v : Vis) : List D := [.lit (.int .i64 v.1), .lit (.bool v.2)]
abbrev visSl (l : List Vis) : D := .sl l.length fun i => encVis (l.getD i (0, false))
attribute [simp] encVis

def visFrom (l : List Vis) (j : Nat) : Int :=
  if j < l.length then
    if (l[j]?.getD (0, false)).1 < 0 ∨ 253402300799 < (l[j]?.getD (0, false)).1 then 1
    else if j = 0 ∧ (l[j]?.getD (0, false)).2 = true then 3
    else if 0 < j ∧ (l[j]?.getD (0, false)).1 ≤ (l[j - 1]?.getD (0, false)).1 then 8
    else visFrom l (j + 1)
  else 0
termination_by l.length - j
def checkVisits (l : List Vis) : Int := if 500 < l.length then 2 else visFrom l 0

theorem visFrom_range (l : List Vis) (j : Nat) (h : visFrom l j = 0) : ∀ i, j ≤ i → i < l.length → 0 ≤ (l[i]?.getD (0, false)).1 ∧ (l[i]?.getD (0, false)).1 ≤ 253402300799 := by
  intro i hi hl
  rw [visFrom] at h
  rw [if_pos (by omega)] at h
  split at h
  · omega
  split at h
  · omega
  split at h
  · omega
  rcases Nat.eq_or_lt_of_le hi with rfl | hlt
  · omega
  · exact visFrom_range l (j + 1) h i (by omega) hl
termination_by l.length - j
theorem visFrom_incr (l : List Vis) (j : Nat) (h : visFrom l j = 0) : ∀ i, j ≤ i → i < l.length → 0 < i → (l[i - 1]?.getD (0, false)).1 < (l[i]?.getD (0, false)).1 := by
  intro i hi hl h0
  rw [visFrom] at h
  rw [if_pos (by omega)] at h
  split at h
  · omega
  split at h
  · omega
  split at h
  · omega
  rcases Nat.eq_or_lt_of_le hi with rfl | hlt
  · omega
  · exact visFrom_incr l (j + 1) h i (by omega) hl h0
termination_by l.length - j

def chFrom (l : List Vis) (j : Nat) : Int := if j < l.length then (if (l[j]?.getD (0, false)).2 then 1 else 0) + chFrom l (j + 1) else 0
termination_by l.length - j
def changes (l : List Vis) : Int := chFrom l 0
theorem chFrom_bd (l : List Vis) (j : Nat) : 0 ≤ chFrom l j ∧ chFrom l j ≤ ((l.length - j : Nat) : Int) := by
  rw [chFrom]
  split
  · have := chFrom_bd l (j + 1)
    split <;> omega
  · omega
termination_by l.length - j

def period (l : List Vis) (low high : Int) : Int :=
  if l.length < 2 then low else
    let n := (2 * ((l[l.length - 1]?.getD (0, false)).1 - (l[0]?.getD (0, false)).1)).tdiv (2 * changes l + 1)
    let m := if (l[l.length - 1]?.getD (0, false)).2 then (if ((l[l.length - 1]?.getD (0, false)).1 - (l[l.length - 1 - 1]?.getD (0, false)).1 + 1).tdiv 2 < n then ((l[l.length - 1]?.getD (0, false)).1 - (l[l.length - 1 - 1]?.getD (0, false)).1 + 1).tdiv 2 else n) else n
    if high < (if m < low then low else m) then high else (if m < low then low else m)

def askPeriod (l : List Vis) (low high : Int) : Int :=
  if checkVisits l ≠ 0 then checkVisits l else if ¬ (1 ≤ low ∧ low ≤ 100000000) ∨ ¬ (low ≤ high ∧ high ≤ 100000000) then 1 else 0
def periodF (l : List Vis) (low high : Int) : Int × Int := if askPeriod l low high ≠ 0 then (0, askPeriod l low high) else (period l low high, 0)
def due (l : List Vis) (low high : Int) : Int × Int :=
  if askPeriod l low high ≠ 0 then (0, askPeriod l low high) else if l.length = 0 then (0, 0) else
    (if 253402300799 < (l[l.length - 1]?.getD (0, false)).1 + period l low high then 253402300799 else (l[l.length - 1]?.getD (0, false)).1 + period l low high, 0)

/-! The program's functions. -/
theorem within_ok (n lo hi : Int) : FnOk Tryz.prog 71 [int n, int lo, int hi] (tru (decide (lo ≤ n) && decide (n ≤ hi))) := by
  refine fnOk Tryz.func71 rfl (by kernel_rfl) Tryz.ntmps71 _ rfl (by simp) fun C hc => ?_
  repeat' (first | refine Ya ?_ | refine Yb ?_ | refine Yc ?_ | refine Yd ?_ | refine Ye ?_ | refine Yf ?_ | refine Yg ?_ | refine Yh ?_ | refine Yi ?_ | refine Yj ?_ | refine Yk ?_ | refine Yl ?_ | refine Ym ?_ | refine Yn ?_ | refine Yo ?_ | refine Yp (h := ?_) | refine Yq ?_ | refine Yr ?_ | refine Ys ?_ | refine Zr hc (hk := ?_) | refine Zd hc (hk := ?_) | (refine Zc (ht := fun hb => ?_) (hf := fun hb => ?_) <;> (try simp at hb)) | fail)
  (refine Zl hc (hr := ?_))
  simp
theorem isMoment_ok (n : Int) : FnOk Tryz.prog 91 [int n] (tru (decide (0 ≤ n) && decide (n ≤ 253402300799))) := by
  refine fnOk Tryz.func91 rfl (by kernel_rfl) Tryz.ntmps91 _ rfl (by simp) fun C hc => ?_
  repeat' (first | (first | refine Ya ?_ | refine Yb ?_ | refine Yc ?_ | refine Yd ?_ | refine Ye ?_ | refine Yf ?_ | refine Yg ?_ | refine Yh ?_ | refine Yi ?_ | refine Yj ?_ | refine Yk ?_ | refine Yl ?_ | refine Ym ?_ | refine Yn ?_ | refine Yo ?_ | refine Yp (h := ?_) | refine Yq ?_ | refine Yr ?_ | refine Ys ?_ | refine Zr hc (hk := ?_) | refine Zd hc (hk := ?_) | (refine Zc (ht := fun hb => ?_) (hf := fun hb => ?_) <;> (try simp at hb)) | fail) | (first | refine Zw hc (hf := by exact within_ok _ _ _) (hk := ?_) | refine Zq hc (hf := by exact within_ok _ _ _) (hk := ?_) | refine Zo hc (hk := ?_) | refine Zu hc (hk := ?_) | refine Ze hc (hk := ?_) | refine Zf hc (hk := ?_) | fail))
  (refine Zl hc (hr := ?_))
  simp

theorem checkVisits_ok (l : List Vis) (hm : l.length ≤ 9223372036854775807) : FnOk Tryz.prog 149 [visSl l] (int (checkVisits l)) := by
  refine fnOk Tryz.func149 rfl (by kernel_rfl) Tryz.ntmps149 _ rfl (by simp) fun C hc => ?_
  repeat' (first | refine Ya ?_ | refine Yb ?_ | refine Yc ?_ | refine Yd ?_ | refine Ye ?_ | refine Yf ?_ | refine Yg ?_ | refine Yh ?_ | refine Yi ?_ | refine Yj ?_ | refine Yk ?_ | refine Yl ?_ | refine Ym ?_ | refine Yn ?_ | refine Yo ?_ | refine Yp (h := ?_) | refine Yq ?_ | refine Yr ?_ | refine Ys ?_ | refine Zr hc (hk := ?_) | refine Zd hc (hk := ?_) | (refine Zc (ht := fun hb => ?_) (hf := fun hb => ?_) <;> (try simp at hb)) | fail)
  · (refine Zl hc (hr := ?_))
    simp [checkVisits]; omega
  refine ewp_loop (fun j : Nat => ⟨[(0, .d (visSl l)), (8, .d (visSl l)), (9, .d (int l.length)), (10, .d (int j))], []⟩) (fun j => j ≤ l.length ∧ checkVisits l = visFrom l j) (fun j => l.length - j) 0 ⟨by simp, by simp [checkVisits]; omega⟩ (run_keep [0, 8, 9, 10] [] (by simp; exact Gives.mk) (by simp; exact Gives.mk)) ?_
  intro j ⟨hj, hs⟩
  rw [visFrom] at hs
  repeat' (first | (first | refine Ya ?_ | refine Yb ?_ | refine Yc ?_ | refine Yd ?_ | refine Ye ?_ | refine Yf ?_ | refine Yg ?_ | refine Yh ?_ | refine Yi ?_ | refine Yj ?_ | refine Yk ?_ | refine Yl ?_ | refine Ym ?_ | refine Yn ?_ | refine Yo ?_ | refine Yp (h := ?_) | refine Yq ?_ | refine Yr ?_ | refine Ys ?_ | refine Zr hc (hk := ?_) | refine Zd hc (hk := ?_) | (refine Zc (ht := fun hb => ?_) (hf := fun hb => ?_) <;> (try simp at hb)) | fail) | (first | refine Zw hc (hf := by exact isMoment_ok _) (hk := ?_) | refine Zq hc (hf := by exact isMoment_ok _) (hk := ?_) | refine Zo hc (hk := ?_) | refine Zu hc (hk := ?_) | refine Ze hc (hk := ?_) | refine Zf hc (hk := ?_) | fail))
  all_goals try (refine Zl hc (hr := ?_))
  all_goals try (refine res_int ?_; rw [hs]; (repeat' split) <;> (first | rfl | (exfalso; omega) | (exfalso; simp_all; done) | grind))
  refine ⟨j + 1, ⟨by omega, ?_⟩, by omega, run_back [0, 8, 9, 10] [] (by simp; exact Gives.mk) (by simp; exact Gives.mk) (by simp)⟩
  rw [hs]; (repeat' split) <;> (first | rfl | (exfalso; omega) | (exfalso; simp_all; done) | grind)
theorem changes_ok (l : List Vis) (hm : l.length ≤ 9223372036854775807) : FnOk Tryz.prog 151 [visSl l] (int (changes l)) := by
  refine fnOk Tryz.func151 rfl (by kernel_rfl) Tryz.ntmps151 _ rfl (by simp) fun C hc => ?_
  repeat' (first | refine Ya ?_ | refine Yb ?_ | refine Yc ?_ | refine Yd ?_ | refine Ye ?_ | refine Yf ?_ | refine Yg ?_ | refine Yh ?_ | refine Yi ?_ | refine Yj ?_ | refine Yk ?_ | refine Yl ?_ | refine Ym ?_ | refine Yn ?_ | refine Yo ?_ | refine Yp (h := ?_) | refine Yq ?_ | refine Yr ?_ | refine Ys ?_ | refine Zr hc (hk := ?_) | refine Zd hc (hk := ?_) | (refine Zc (ht := fun hb => ?_) (hf := fun hb => ?_) <;> (try simp at hb)) | fail)
  refine ewp_loop (fun x : Nat × Int => ⟨[(3, .d (int x.2)), (6, .d (visSl l)), (7, .d (int l.length)), (8, .d (int x.1))], []⟩) (fun x => x.1 ≤ l.length ∧ changes l = x.2 + chFrom l x.1 ∧ 0 ≤ x.2 ∧ x.2 ≤ x.1) (fun x => l.length - x.1) (0, 0) ⟨by simp, by simp [changes], by simp, by simp⟩ (run_keep [3, 6, 7, 8] [] (by simp; exact Gives.mk) (by simp; exact Gives.mk)) ?_
  rintro ⟨j, n⟩ ⟨hj, hs, h0, h1⟩
  simp only at hj hs h0 h1 ⊢
  rw [chFrom] at hs
  repeat' (first | refine Ya ?_ | refine Yb ?_ | refine Yc ?_ | refine Yd ?_ | refine Ye ?_ | refine Yf ?_ | refine Yg ?_ | refine Yh ?_ | refine Yi ?_ | refine Yj ?_ | refine Yk ?_ | refine Yl ?_ | refine Ym ?_ | refine Yn ?_ | refine Yo ?_ | refine Yp (h := ?_) | refine Yq ?_ | refine Yr ?_ | refine Ys ?_ | refine Zr hc (hk := ?_) | refine Zd hc (hk := ?_) | (refine Zc (ht := fun hb => ?_) (hf := fun hb => ?_) <;> (try simp at hb)) | fail)
  · refine ⟨(j + 1, n + 1), ⟨by simp; omega, ?_, by simp; omega, by simp; omega⟩, by simp; omega, run_back [3, 6, 7, 8] [] (by simp; exact Gives.mk) (by simp; exact Gives.mk) (by simp)⟩
    simp only
    rw [hs]; (repeat' split) <;> (first | rfl | (exfalso; omega) | (exfalso; simp_all; done) | grind)
  · refine ⟨(j + 1, n), ⟨by simp; omega, ?_, by simp; omega, by simp; omega⟩, by simp; omega, run_back [3, 6, 7, 8] [] (by simp; exact Gives.mk) (by simp; exact Gives.mk) (by simp)⟩
    simp only
    rw [hs]; (repeat' split) <;> (first | rfl | (exfalso; omega) | (exfalso; simp_all; done) | grind)
  · (refine Zl hc (hr := ?_))
    refine res_int ?_
    rw [hs]; (repeat' split) <;> (first | rfl | (exfalso; omega) | (exfalso; simp_all; done) | grind)

/-! The reference's. -/
theorem withinR_ok (n lo hi : Int) : FnOk Tryz.prog 72 [int n, int lo, int hi] (tru (decide (lo ≤ n) && decide (n ≤ hi))) := by
  refine fnOk Tryz.func72 rfl (by kernel_rfl) Tryz.ntmps72 _ rfl (by simp) fun C hc => ?_
  repeat' (first | refine Ya ?_ | refine Yb ?_ | refine Yc ?_ | refine Yd ?_ | refine Ye ?_ | refine Yf ?_ | refine Yg ?_ | refine Yh ?_ | refine Yi ?_ | refine Yj ?_ | refine Yk ?_ | refine Yl ?_ | refine Ym ?_ | refine Yn ?_ | refine Yo ?_ | refine Yp (h := ?_) | refine Yq ?_ | refine Yr ?_ | refine Ys ?_ | refine Zr hc (hk := ?_) | refine Zd hc (hk := ?_) | (refine Zc (ht := fun hb => ?_) (hf := fun hb => ?_) <;> (try simp at hb)) | fail)
  (refine Zl hc (hr := ?_))
  simp
theorem checkVisitsR_ok (l : List Vis) (hm : l.length ≤ 9223372036854775807) : FnOk Tryz.prog 95 [visSl l] (int (checkVisits l)) := by
  refine fnOk Tryz.func95 rfl (by kernel_rfl) Tryz.ntmps95 _ rfl (by simp) fun C hc => ?_
  repeat' (first | refine Ya ?_ | refine Yb ?_ | refine Yc ?_ | refine Yd ?_ | refine Ye ?_ | refine Yf ?_ | refine Yg ?_ | refine Yh ?_ | refine Yi ?_ | refine Yj ?_ | refine Yk ?_ | refine Yl ?_ | refine Ym ?_ | refine Yn ?_ | refine Yo ?_ | refine Yp (h := ?_) | refine Yq ?_ | refine Yr ?_ | refine Ys ?_ | refine Zr hc (hk := ?_) | refine Zd hc (hk := ?_) | (refine Zc (ht := fun hb => ?_) (hf := fun hb => ?_) <;> (try simp at hb)) | fail)
  · (refine Zl hc (hr := ?_))
    simp [checkVisits]; omega
  refine ewp_loop (fun j : Nat => ⟨[(0, .d (visSl l)), (8, .d (visSl l)), (9, .d (int l.length)), (10, .d (int j))], []⟩) (fun j => j ≤ l.length ∧ checkVisits l = visFrom l j) (fun j => l.length - j) 0 ⟨by simp, by simp [checkVisits]; omega⟩ (run_keep [0, 8, 9, 10] [] (by simp; exact Gives.mk) (by simp; exact Gives.mk)) ?_
  intro j ⟨hj, hs⟩
  rw [visFrom] at hs
  repeat' (first | (first | refine Ya ?_ | refine Yb ?_ | refine Yc ?_ | refine Yd ?_ | refine Ye ?_ | refine Yf ?_ | refine Yg ?_ | refine Yh ?_ | refine Yi ?_ | refine Yj ?_ | refine Yk ?_ | refine Yl ?_ | refine Ym ?_ | refine Yn ?_ | refine Yo ?_ | refine Yp (h := ?_) | refine Yq ?_ | refine Yr ?_ | refine Ys ?_ | refine Zr hc (hk := ?_) | refine Zd hc (hk := ?_) | (refine Zc (ht := fun hb => ?_) (hf := fun hb => ?_) <;> (try simp at hb)) | fail) | (first | refine Zw hc (hf := by exact withinR_ok _ _ _) (hk := ?_) | refine Zq hc (hf := by exact withinR_ok _ _ _) (hk := ?_) | refine Zo hc (hk := ?_) | refine Zu hc (hk := ?_) | refine Ze hc (hk := ?_) | refine Zf hc (hk := ?_) | fail))
  all_goals try (refine Zl hc (hr := ?_))
  all_goals try (refine res_int ?_; rw [hs]; (repeat' split) <;> (first | rfl | (exfalso; omega) | (exfalso; simp_all; done) | grind))
  refine ⟨j + 1, ⟨by omega, ?_⟩, by omega, run_back [0, 8, 9, 10] [] (by simp; exact Gives.mk) (by simp; exact Gives.mk) (by simp)⟩
  rw [hs]; (repeat' split) <;> (first | rfl | (exfalso; omega) | (exfalso; simp_all; done) | grind)
theorem changesR_ok (l : List Vis) (hm : l.length ≤ 9223372036854775807) : FnOk Tryz.prog 152 [visSl l] (int (changes l)) := by
  refine fnOk Tryz.func152 rfl (by kernel_rfl) Tryz.ntmps152 _ rfl (by simp) fun C hc => ?_
  repeat' (first | refine Ya ?_ | refine Yb ?_ | refine Yc ?_ | refine Yd ?_ | refine Ye ?_ | refine Yf ?_ | refine Yg ?_ | refine Yh ?_ | refine Yi ?_ | refine Yj ?_ | refine Yk ?_ | refine Yl ?_ | refine Ym ?_ | refine Yn ?_ | refine Yo ?_ | refine Yp (h := ?_) | refine Yq ?_ | refine Yr ?_ | refine Ys ?_ | refine Zr hc (hk := ?_) | refine Zd hc (hk := ?_) | (refine Zc (ht := fun hb => ?_) (hf := fun hb => ?_) <;> (try simp at hb)) | fail)
  refine ewp_loop (fun x : Nat × Int => ⟨[(3, .d (int x.2)), (6, .d (visSl l)), (7, .d (int l.length)), (8, .d (int x.1))], []⟩) (fun x => x.1 ≤ l.length ∧ changes l = x.2 + chFrom l x.1 ∧ 0 ≤ x.2 ∧ x.2 ≤ x.1) (fun x => l.length - x.1) (0, 0) ⟨by simp, by simp [changes], by simp, by simp⟩ (run_keep [3, 6, 7, 8] [] (by simp; exact Gives.mk) (by simp; exact Gives.mk)) ?_
  rintro ⟨j, n⟩ ⟨hj, hs, h0, h1⟩
  simp only at hj hs h0 h1 ⊢
  rw [chFrom] at hs
  repeat' (first | refine Ya ?_ | refine Yb ?_ | refine Yc ?_ | refine Yd ?_ | refine Ye ?_ | refine Yf ?_ | refine Yg ?_ | refine Yh ?_ | refine Yi ?_ | refine Yj ?_ | refine Yk ?_ | refine Yl ?_ | refine Ym ?_ | refine Yn ?_ | refine Yo ?_ | refine Yp (h := ?_) | refine Yq ?_ | refine Yr ?_ | refine Ys ?_ | refine Zr hc (hk := ?_) | refine Zd hc (hk := ?_) | (refine Zc (ht := fun hb => ?_) (hf := fun hb => ?_) <;> (try simp at hb)) | fail)
  · refine ⟨(j + 1, n + 1), ⟨by simp; omega, ?_, by simp; omega, by simp; omega⟩, by simp; omega, run_back [3, 6, 7, 8] [] (by simp; exact Gives.mk) (by simp; exact Gives.mk) (by simp)⟩
    simp only
    rw [hs]; (repeat' split) <;> (first | rfl | (exfalso; omega) | (exfalso; simp_all; done) | grind)
  · refine ⟨(j + 1, n), ⟨by simp; omega, ?_, by simp; omega, by simp; omega⟩, by simp; omega, run_back [3, 6, 7, 8] [] (by simp; exact Gives.mk) (by simp; exact Gives.mk) (by simp)⟩
    simp only
    rw [hs]; (repeat' split) <;> (first | rfl | (exfalso; omega) | (exfalso; simp_all; done) | grind)
  · (refine Zl hc (hr := ?_))
    refine res_int ?_
    rw [hs]; (repeat' split) <;> (first | rfl | (exfalso; omega) | (exfalso; simp_all; done) | grind)

end Go.Proofs.YtnainpghpjelcaaGreatDoor
