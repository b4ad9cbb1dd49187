/-
  FRONTIER: visits, periods: what the functions compute.
-/
import Derived.Test.YtnainpghpjelcaaGreatDoorLibS
import Derived.Test.YtnainpghpjelcaaGreatDoorLwCard
set_option linter.unusedSimpArgs false
set_option linter.unusedVariables false
namespace Go.Proofs.YtnainpghpjelcaaGreatDoor
open Go.Lw
set_option maxRecDepth 100000
set_option maxHeartbeats 400000

/-! The plain functions. -/
abbrev Vis := Int × Bool
def encVis (v : Vis) : List D := [.lit (.int .i64 v.1), .lit (.bool v.2)]
abbrev visSl (l : List Vis) : D := .sl l.length fun i => encVis (l.getD i (0, false))
attribute [simp] encVis

def visFrom (l : List Vis) (j : Nat) : Int :=
  if j < l.length then
    if (l[j]?.getD (0, false)).1 < 0 ∨ 253402300799 < (l[j]?.getD (0, false)).1 then 1
    else if j = 0 ∧ (l[j]?.getD (0, false)).2 = true then 3
    else if 0 < j ∧ (l[j]?.getD (0, false)).1 ≤ (l[j - 1]?.getD (0, false)).1 then 8
    else visFrom l (j + 1)
  else 0
termination_by l.length - j
def checkVisits (l : List Vis) : Int := if 500 < l.length then 2 else visFrom l 0

theorem visFrom_range (l : List Vis) (j : Nat) (h : visFrom l j = 0) : ∀ i, j ≤ i → i < l.length → 0 ≤ (l[i]?.getD (0, false)).1 ∧ (l[i]?.getD (0, false)).1 ≤ 253402300799 := by
  intro i hi hl
  rw [visFrom] at h
  rw [if_pos (by omega)] at h
  split at h
  · omega
  split at h
  · omega
  split at h
  · omega
  rcases Nat.eq_or_lt_of_le hi with rfl | hlt
  · omega
  · exact visFrom_range l (j + 1) h i (by omega) hl
termination_by l.length - j
theorem visFrom_incr (l : List Vis) (j : Nat) (h : visFrom l j = 0) : ∀ i, j ≤ i → i < l.length → 0 < i → (l[i - 1]?.getD (0, false)).1 < (l[i]?.getD (0, false)).1 := by
  intro i hi hl h0
  rw [visFrom] at h
  rw [if_pos (by omega)] at h
  split at h
  · omega
  split at h
  · omega
  split at h
  · omega
  rcases Nat.eq_or_lt_of_le hi with rfl | hlt
  · omega
  · exact visFrom_incr l (j + 1) h i (by omega) hl h0
termination_by l.length - j

def chFrom (l : List Vis) (j : Nat) : Int := if j < l.length then (if (l[j]?.getD (0, false)).2 then 1 else 0) + chFrom l (j + 1) else 0
termination_by l.length - j
def changes (l : List Vis) : Int := chFrom l 0
theorem chFrom_bd (l : List Vis) (j : Nat) : 0 ≤ chFrom l j ∧ chFrom l j ≤ ((l.length - j : Nat) : Int) := by
  rw [chFrom]
  split
  · have := chFrom_bd l (j + 1)
    split <;> omega
  · omega
termination_by l.length - j

def period (l : List Vis) (low high : Int) : Int :=
  if l.length < 2 then low else
    let n := (2 * ((l[l.length - 1]?.getD (0, false)).1 - (l[0]?.getD (0, false)).1)).tdiv (2 * changes l + 1)
    let m := if (l[l.length - 1]?.getD (0, false)).2 then (if ((l[l.length - 1]?.getD (0, false)).1 - (l[l.length - 1 - 1]?.getD (0, false)).1 + 1).tdiv 2 < n then ((l[l.length - 1]?.getD (0, false)).1 - (l[l.length - 1 - 1]?.getD (0, false)).1 + 1).tdiv 2 else n) else n
    if high < (if m < low then low else m) then high else (if m < low then low else m)

def askPeriod (l : List Vis) (low high : Int) : Int :=
  if checkVisits l ≠ 0 then checkVisits l else if ¬ (1 ≤ low ∧ low ≤ 100000000) ∨ ¬ (low ≤ high ∧ high ≤ 100000000) then 1 else 0
def periodF (l : List Vis) (low high : Int) : Int × Int := if askPeriod l low high ≠ 0 then (0, askPeriod l low high) else (period l low high, 0)
def due (l : List Vis) (low high : Int) : Int × Int :=
  if askPeriod l low high ≠ 0 then (0, askPeriod l low high) else if l.length = 0 then (0, 0) else
    (if 253402300799 < (l[l.length - 1]?.getD (0, false)).1 + period l low high then 253402300799 else (l[l.length - 1]?.getD (0, false)).1 + period l low high, 0)

/-! The program's functions. -/
theorem within_ok (n lo hi : Int) : FnOk Tryz.prog 71 [int n, int lo, int hi] (tru (decide (lo ≤ n) && decide (n ≤ hi))) := by
  refine fnOk Tryz.func71 rfl (by kernel_rfl) Tryz.ntmps71 _ rfl (by simp) fun C hc => ?_
  repeat' (first | refine Ya ?_ | refine Yb ?_ | refine Yc ?_ | refine Yd ?_ | refine Ye ?_ | refine Yf ?_ | refine Yg ?_ | refine Yh ?_ | refine Yi ?_ | refine Yj ?_ | refine Yk ?_ | refine Yl ?_ | refine Ym ?_ | refine Yn ?_ | refine Yo ?_ | refine Yp (h := ?_) | refine Yq ?_ | refine Yr ?_ | refine Ys ?_ | refine Zr hc (hk := ?_) | refine Zd hc (hk := ?_) | (refine Zc (ht := fun hb => ?_) (hf := fun hb => ?_) <;> (try simp at hb)) | fail)
  (refine Zl hc (hr := ?_))
  simp
theorem isMoment_ok (n : Int) : FnOk Tryz.prog 91 [int n] (tru (decide (0 ≤ n) && decide (n ≤ 253402300799))) := by
  refine fnOk Tryz.func91 rfl (by kernel_rfl) Tryz.ntmps91 _ rfl (by simp) fun C hc => ?_
  repeat' (first | (first | refine Ya ?_ | refine Yb ?_ | refine Yc ?_ | refine Yd ?_ | refine Ye ?_ | refine Yf ?_ | refine Yg ?_ | refine Yh ?_ | refine Yi ?_ | refine Yj ?_ | refine Yk ?_ | refine Yl ?_ | refine Ym ?_ | refine Yn ?_ | refine Yo ?_ | refine Yp (h := ?_) | refine Yq ?_ | refine Yr ?_ | refine Ys ?_ | refine Zr hc (hk := ?_) | refine Zd hc (hk := ?_) | (refine Zc (ht := fun hb => ?_) (hf := fun hb => ?_) <;> (try simp at hb)) | fail) | (first | refine Zw hc (hf := by exact within_ok _ _ _) (hk := ?_) | refine Zq hc (hf := by exact within_ok _ _ _) (hk := ?_) | refine Zo hc (hk := ?_) | refine Zu hc (hk := ?_) | refine Ze hc (hk := ?_) | refine Zf hc (hk := ?_) | fail))
  (refine Zl hc (hr := ?_))
  simp

theorem checkVisits_ok (l : List Vis) (hm : l.length ≤ 9223372036854775807) : FnOk Tryz.prog 149 [visSl l] (int (checkVisits l)) := by
  refine fnOk Tryz.func149 rfl (by kernel_rfl) Tryz.ntmps149 _ rfl (by simp) fun C hc => ?_
  repeat' (first | refine Ya ?_ | refine Yb ?_ | refine Yc ?_ | refine Yd ?_ | refine Ye ?_ | refine Yf ?_ | refine Yg ?_ | refine Yh ?_ | refine Yi ?_ | refine Yj ?_ | refine Yk ?_ | refine Yl ?_ | refine Ym ?_ | refine Yn ?_ | refine Yo ?_ | refine Yp (h := ?_) | refine Yq ?_ | refine Yr ?_ | refine Ys ?_ | refine Zr hc (hk := ?_) | refine Zd hc (hk := ?_) | (refine Zc (ht := fun hb => ?_) (hf := fun hb => ?_) <;> (try simp at hb)) | fail)
  · (refine Zl hc (hr := ?_))
    simp [checkVisits]; omega
  refine ewp_loop (fun j : Nat => ⟨[(0, .d (visSl l)), (8, .d (visSl l)), (9, .d (int l.length)), (10, .d (int j))], []⟩) (fun j => j ≤ l.length ∧ checkVisits l = visFrom l j) (fun j => l.length - j) 0 ⟨by simp, by simp [checkVisits]; omega⟩ (run_keep [0, 8, 9, 10] [] (by simp; exact Gives.mk) (by simp; exact Gives.mk)) ?_
  intro j ⟨hj, hs⟩
  rw [visFrom] at hs
  repeat' (first | (first | refine Ya ?_ | refine Yb ?_ | refine Yc ?_ | refine Yd ?_ | refine Ye ?_ | refine Yf ?_ | refine Yg ?_ | refine Yh ?_ | refine Yi ?_ | refine Yj ?_ | refine Yk ?_ | refine Yl ?_ | refine Ym ?_ | refine Yn ?_ | refine Yo ?_ | refine Yp (h := ?_) | refine Yq ?_ | refine Yr ?_ | refine Ys ?_ | refine Zr hc (hk := ?_) | refine Zd hc (hk := ?_) | (refine Zc (ht := fun hb => ?_) (hf := fun hb => ?_) <;> (try simp at hb)) | fail) | (first | refine Zw hc (hf := by exact isMoment_ok _) (hk := ?_) | refine Zq hc (hf := by exact isMoment_ok _) (hk := ?_) | refine Zo hc (hk := ?_) | refine Zu hc (hk := ?_) | refine Ze hc (hk := ?_) | refine Zf hc (hk := ?_) | fail))
  all_goals try (refine Zl hc (hr := ?_))
  all_goals try (refine res_int ?_; rw [hs]; (repeat' split) <;> (first | rfl | (exfalso; omega) | (exfalso; simp_all; done) | grind))
  refine ⟨j + 1, ⟨by omega, ?_⟩, by omega, run_back [0, 8, 9, 10] [] (by simp; exact Gives.mk) (by simp; exact Gives.mk) (by simp)⟩
  rw [hs]; (repeat' split) <;> (first | rfl | (exfalso; omega) | (exfalso; simp_all; done) | grind)
theorem changes_ok (l : List Vis) (hm : l.length ≤ 9223372036854775807) : FnOk Tryz.prog 151 [visSl l] (int (changes l)) := by
  refine fnOk Tryz.func151 rfl (by kernel_rfl) Tryz.ntmps151 _ rfl (by simp) fun C hc => ?_
  repeat' (first | refine Ya ?_ | refine Yb ?_ | refine Yc ?_ | refine Yd ?_ | refine Ye ?_ | refine Yf ?_ | refine Yg ?_ | refine Yh ?_ | refine Yi ?_ | refine Yj ?_ | refine Yk ?_ | refine Yl ?_ | refine Ym ?_ | refine Yn ?_ | refine Yo ?_ | refine Yp (h := ?_) | refine Yq ?_ | refine Yr ?_ | refine Ys ?_ | refine Zr hc (hk := ?_) | refine Zd hc (hk := ?_) | (refine Zc (ht := fun hb => ?_) (hf := fun hb => ?_) <;> (try simp at hb)) | fail)
  refine ewp_loop (fun x : Nat × Int => ⟨[(3, .d (int x.2)), (6, .d (visSl l)), (7, .d (int l.length)), (8, .d (int x.1))], []⟩) (fun x => x.1 ≤ l.length ∧ changes l = x.2 + chFrom l x.1 ∧ 0 ≤ x.2 ∧ x.2 ≤ x.1) (fun x => l.length - x.1) (0, 0) ⟨by simp, by simp [changes], by simp, by simp⟩ (run_keep [3, 6, 7, 8] [] (by simp; exact Gives.mk) (by simp; exact Gives.mk)) ?_
  rintro ⟨j, n⟩ ⟨hj, hs, h0, h1⟩
  simp only at hj hs h0 h1 ⊢
  rw [chFrom] at hs
  repeat' (first | refine Ya ?_ | refine Yb ?_ | refine Yc ?_ | refine Yd ?_ | refine Ye ?_ | refine Yf ?_ | refine Yg ?_ | refine Yh ?_ | refine Yi ?_ | refine Yj ?_ | refine Yk ?_ | refine Yl ?_ | refine Ym ?_ | refine Yn ?_ | refine Yo ?_ | refine Yp (h := ?_) | refine Yq ?_ | refine Yr ?_ | refine Ys ?_ | refine Zr hc (hk := ?_) | refine Zd hc (hk := ?_) | (refine Zc (ht := fun hb => ?_) (hf := fun hb => ?_) <;> (try simp at hb)) | fail)
  · refine ⟨(j + 1, n + 1), ⟨by simp; omega, ?_, by simp; omega, by simp; omega⟩, by simp; omega, run_back [3, 6, 7, 8] [] (by simp; exact Gives.mk) (by simp; exact Gives.mk) (by simp)⟩
    simp only
    rw [hs]; (repeat' split) <;> (first | rfl | (exfalso; omega) | (exfalso; simp_all; done) | grind)
  · refine ⟨(j + 1, n), ⟨by simp; omega, ?_, by simp; omega, by simp; omega⟩, by simp; omega, run_back [3, 6, 7, 8] [] (by simp; exact Gives.mk) (by simp; exact Gives.mk) (by simp)⟩
    simp only
    rw [hs]; (repeat' split) <;> (first | rfl | (exfalso; omega) | (exfalso; simp_all; done) | grind)
  · (refine Zl hc (hr := ?_))
    refine res_int ?_
    rw [hs]; (repeat' split) <;> (first | rfl | (exfalso; omega) | (exfalso; simp_all; done) | grind)

/-! The reference's. -/
theorem withinR_ok (n lo hi : Int) : FnOk Tryz.prog 72 [int n, int lo, int hi] (tru (decide (lo ≤ n) && decide (n ≤ hi))) := by
  refine fnOk Tryz.func72 rfl (by kernel_rfl) Tryz.ntmps72 _ rfl (by simp) fun C hc => ?_
  repeat' (first | refine Ya ?_ | refine Yb ?_ | refine Yc ?_ | refine Yd ?_ | refine Ye ?_ | refine Yf ?_ | refine Yg ?_ | refine Yh ?_ | refine Yi ?_ | refine Yj ?_ | refine Yk ?_ | refine Yl ?_ | refine Ym ?_ | refine Yn ?_ | refine Yo ?_ | refine Yp (h := ?_) | refine Yq ?_ | refine Yr ?_ | refine Ys ?_ | refine Zr hc (hk := ?_) | refine Zd hc (hk := ?_) | (refine Zc (ht := fun hb => ?_) (hf := fun hb => ?_) <;> (try simp at hb)) | fail)
  (refine Zl hc (hr := ?_))
  simp
theorem checkVisitsR_ok (l : List Vis) (hm : l.length ≤ 9223372036854775807) : FnOk Tryz.prog 95 [visSl l] (int (checkVisits l)) := by
  refine fnOk Tryz.func95 rfl (by kernel_rfl) Tryz.ntmps95 _ rfl (by simp) fun C hc => ?_
  repeat' (first | refine Ya ?_ | refine Yb ?_ | refine Yc ?_ | refine Yd ?_ | refine Ye ?_ | refine Yf ?_ | refine Yg ?_ | refine Yh ?_ | refine Yi ?_ | refine Yj ?_ | refine Yk ?_ | refine Yl ?_ | refine Ym ?_ | refine Yn ?_ | refine Yo ?_ | refine Yp (h := ?_) | refine Yq ?_ | refine Yr ?_ | refine Ys ?_ | refine Zr hc (hk := ?_) | refine Zd hc (hk := ?_) | (refine Zc (ht := fun hb => ?_) (hf := fun hb => ?_) <;> (try simp at hb)) | fail)
  · (refine Zl hc (hr := ?_))
    simp [checkVisits]; omega
  refine ewp_loop (fun j : Nat => ⟨[(0, .d (visSl l)), (8, .d (visSl l)), (9, .d (int l.length)), (10, .d (int j))], []⟩) (fun j => j ≤ l.length ∧ checkVisits l = visFrom l j) (fun j => l.length - j) 0 ⟨by simp, by simp [checkVisits]; omega⟩ (run_keep [0, 8, 9, 10] [] (by simp; exact Gives.mk) (by simp; exact Gives.mk)) ?_
  intro j ⟨hj, hs⟩
  rw [visFrom] at hs
  repeat' (first | (first | refine Ya ?_ | refine Yb ?_ | refine Yc ?_ | refine Yd ?_ | refine Ye ?_ | refine Yf ?_ | refine Yg ?_ | refine Yh ?_ | refine Yi ?_ | refine Yj ?_ | refine Yk ?_ | refine Yl ?_ | refine Ym ?_ | refine Yn ?_ | refine Yo ?_ | refine Yp (h := ?_) | refine Yq ?_ | refine Yr ?_ | refine Ys ?_ | refine Zr hc (hk := ?_) | refine Zd hc (hk := ?_) | (refine Zc (ht := fun hb => ?_) (hf := fun hb => ?_) <;> (try simp at hb)) | fail) | (first | refine Zw hc (hf := by exact withinR_ok _ _ _) (hk := ?_) | refine Zq hc (hf := by exact withinR_ok _ _ _) (hk := ?_) | refine Zo hc (hk := ?_) | refine Zu hc (hk := ?_) | refine Ze hc (hk := ?_) | refine Zf hc (hk := ?_) | fail))
  all_goals try (refine Zl hc (hr := ?_))
  all_goals try (refine res_int ?_; rw [hs]; (repeat' split) <;> (first | rfl | (exfalso; omega) | (exfalso; simp_all; done) | grind))
  refine ⟨j + 1, ⟨by omega, ?_⟩, by omega, run_back [0, 8, 9, 10] [] (by simp; exact Gives.mk) (by simp; exact Gives.mk) (by simp)⟩
  rw [hs]; (repeat' split) <;> (first | rfl | (exfalso; omega) | (exfalso; simp_all; done) | grind)
theorem changesR_ok (l : List Vis) (hm : l.length ≤ 9223372036854775807) : FnOk Tryz.prog 152 [visSl l] (int (changes l)) := by
  refine fnOk Tryz.func152 rfl (by kernel_rfl) Tryz.ntmps152 _ rfl (by simp) fun C hc => ?_
  repeat' (first | refine Ya ?_ | refine Yb ?_ | refine Yc ?_ | refine Yd ?_ | refine Ye ?_ | refine Yf ?_ | refine Yg ?_ | refine Yh ?_ | refine Yi ?_ | refine Yj ?_ | refine Yk ?_ | refine Yl ?_ | refine Ym ?_ | refine Yn ?_ | refine Yo ?_ | refine Yp (h := ?_) | refine Yq ?_ | refine Yr ?_ | refine Ys ?_ | refine Zr hc (hk := ?_) | refine Zd hc (hk := ?_) | (refine Zc (ht := fun hb => ?_) (hf := fun hb => ?_) <;> (try simp at hb)) | fail)
  refine ewp_loop (fun x : Nat × Int => ⟨[(3, .d (int x.2)), (6, .d (visSl l)), (7, .d (int l.length)), (8, .d (int x.1))], []⟩) (fun x => x.1 ≤ l.length ∧ changes l = x.2 + chFrom l x.1 ∧ 0 ≤ x.2 ∧ x.2 ≤ x.1) (fun x => l.length - x.1) (0, 0) ⟨by simp, by simp [changes], by simp, by simp⟩ (run_keep [3, 6, 7, 8] [] (by simp; exact Gives.mk) (by simp; exact Gives.mk)) ?_
  rintro ⟨j, n⟩ ⟨hj, hs, h0, h1⟩
  simp only at hj hs h0 h1 ⊢
  rw [chFrom] at hs
  repeat' (first | refine Ya ?_ | refine Yb ?_ | refine Yc ?_ | refine Yd ?_ | refine Ye ?_ | refine Yf ?_ | refine Yg ?_ | refine Yh ?_ | refine Yi ?_ | refine Yj ?_ | refine Yk ?_ | refine Yl ?_ | refine Ym ?_ | refine Yn ?_ | refine Yo ?_ | refine Yp (h := ?_) | refine Yq ?_ | refine Yr ?_ | refine Ys ?_ | refine Zr hc (hk := ?_) | refine Zd hc (hk := ?_) | (refine Zc (ht := fun hb => ?_) (hf := fun hb => ?_) <;> (try simp at hb)) | fail)
  · refine ⟨(j + 1, n + 1), ⟨by simp; omega, ?_, by simp; omega, by simp; omega⟩, by simp; omega, run_back [3, 6, 7, 8] [] (by simp; exact Gives.mk) (by simp; exact Gives.mk) (by simp)⟩
    simp only
    rw [hs]; (repeat' split) <;> (first | rfl | (exfalso; omega) | (exfalso; simp_all; done) | grind)
  · refine ⟨(j + 1, n), ⟨by simp; omega, ?_, by simp; omega, by simp; omega⟩, by simp; omega, run_back [3, 6, 7, 8] [] (by simp; exact Gives.mk) (by simp; exact Gives.mk) (by simp)⟩
    simp only
    rw [hs]; (repeat' split) <;> (first | rfl | (exfalso; omega) | (exfalso; simp_all; done) | grind)
  · (refine Zl hc (hr := ?_))
    refine res_int ?_
    rw [hs]; (repeat' split) <;> (first | rfl | (exfalso; omega) | (exfalso; simp_all; done) | grind)

end Go.Proofs.YtnainpghpjelcaaGreatDoor
/-
  FRONTIER: periods.
-/
set_option linter.unusedSimpArgs false
set_option linter.unusedVariables false
namespace Go.Proofs.YtnainpghpjelcaaGreatDoor
open Go.Lw
set_option maxRecDepth 100000
set_option maxHeartbeats 400000

theorem tdiv_bd (x y : Int) (hx : 0 ≤ x) (hy : 1 ≤ y) : 0 ≤ x.tdiv y ∧ x.tdiv y ≤ x := by
  rw [Int.tdiv_eq_ediv_of_nonneg hx]
  exact ⟨Int.ediv_nonneg hx (by omega), Int.ediv_le_self y hx⟩

theorem visFrom_lt (l : List Vis) (h : visFrom l 0 = 0) (i d : Nat) (hd : i + d < l.length) : (l[i]?.getD ((0 : Int), false)).1 + d ≤ (l[i + d]?.getD ((0 : Int), false)).1 := by
  induction d with
  | zero => simp
  | succ d ih =>
    have h1 := ih (by omega)
    have h2 := visFrom_incr l 0 h (i + (d + 1)) (by omega) hd (by omega)
    rw [show i + (d + 1) - 1 = i + d by omega] at h2
    omega

/-- What right visits say of the numbers in a period. -/
theorem period_facts (l : List Vis) (h0 : checkVisits l = 0) (h2 : 2 ≤ l.length) :
    l.length ≤ 500 ∧ 0 ≤ (l[l.length - 1]?.getD ((0 : Int), false)).1 ∧ (l[l.length - 1]?.getD ((0 : Int), false)).1 ≤ 253402300799 ∧ 0 ≤ (l[0]?.getD ((0 : Int), false)).1 ∧ (l[0]?.getD ((0 : Int), false)).1 < (l[l.length - 1]?.getD ((0 : Int), false)).1 ∧
    0 ≤ (l[l.length - 1 - 1]?.getD ((0 : Int), false)).1 ∧ (l[l.length - 1 - 1]?.getD ((0 : Int), false)).1 < (l[l.length - 1]?.getD ((0 : Int), false)).1 ∧ 0 ≤ changes l ∧ changes l ≤ 500 ∧
    0 ≤ (2 * ((l[l.length - 1]?.getD ((0 : Int), false)).1 - (l[0]?.getD ((0 : Int), false)).1)).tdiv (2 * changes l + 1) ∧
    (2 * ((l[l.length - 1]?.getD ((0 : Int), false)).1 - (l[0]?.getD ((0 : Int), false)).1)).tdiv (2 * changes l + 1) ≤ 2 * ((l[l.length - 1]?.getD ((0 : Int), false)).1 - (l[0]?.getD ((0 : Int), false)).1) ∧
    0 ≤ ((l[l.length - 1]?.getD ((0 : Int), false)).1 - (l[l.length - 1 - 1]?.getD ((0 : Int), false)).1 + 1).tdiv 2 ∧ ((l[l.length - 1]?.getD ((0 : Int), false)).1 - (l[l.length - 1 - 1]?.getD ((0 : Int), false)).1 + 1).tdiv 2 ≤ (l[l.length - 1]?.getD ((0 : Int), false)).1 - (l[l.length - 1 - 1]?.getD ((0 : Int), false)).1 + 1 := by
  have hlen : l.length ≤ 500 := by unfold checkVisits at h0; split at h0 <;> omega
  have hf : visFrom l 0 = 0 := by unfold checkVisits at h0; split at h0 <;> omega
  have hch := chFrom_bd l 0
  have a1 := visFrom_range l 0 hf (l.length - 1) (by omega) (by omega)
  have a2 := visFrom_range l 0 hf 0 (by omega) (by omega)
  have a3 := visFrom_range l 0 hf (l.length - 1 - 1) (by omega) (by omega)
  have a4 := visFrom_lt l hf 0 (l.length - 1) (by omega)
  have a5 := visFrom_lt l hf (l.length - 1 - 1) 1 (by omega)
  rw [show 0 + (l.length - 1) = l.length - 1 by omega] at a4
  rw [show l.length - 1 - 1 + 1 = l.length - 1 by omega] at a5
  have hc : 0 ≤ changes l ∧ changes l ≤ 500 := by unfold changes; omega
  have t1 := tdiv_bd (2 * ((l[l.length - 1]?.getD ((0 : Int), false)).1 - (l[0]?.getD ((0 : Int), false)).1)) (2 * changes l + 1) (by omega) (by omega)
  have t2 := tdiv_bd ((l[l.length - 1]?.getD ((0 : Int), false)).1 - (l[l.length - 1 - 1]?.getD ((0 : Int), false)).1 + 1) 2 (by omega) (by omega)
  refine ⟨hlen, ?_, ?_, ?_, ?_, ?_, ?_, hc.1, hc.2, t1.1, t1.2, t2.1, t2.2⟩ <;> omega

theorem changes_ok_any (l : List Vis) (h : l.length ≤ 500) : FnOk Tryz.prog 151 [visSl l] (int (changes l)) := changes_ok l (by omega)
theorem period_ok (l : List Vis) (low high : Int) (h0 : checkVisits l = 0) (hlo : 1 ≤ low) (hlh : low ≤ high) (hhi : high ≤ 100000000) : FnOk Tryz.prog 118 [visSl l, int low, int high] (int (period l low high)) := by
  have hlen : l.length ≤ 500 := by unfold checkVisits at h0; split at h0 <;> omega
  refine fnOk Tryz.func118 rfl (by kernel_rfl) Tryz.ntmps118 _ rfl (by simp) fun C hc => ?_
  by_cases h2 : l.length < 2
  · repeat' (first | refine Ya ?_ | refine Yb ?_ | refine Yc ?_ | refine Yd ?_ | refine Ye ?_ | refine Yf ?_ | refine Yg ?_ | refine Yh ?_ | refine Yi ?_ | refine Yj ?_ | refine Yk ?_ | refine Yl ?_ | refine Ym ?_ | refine Yn ?_ | refine Yo ?_ | refine Yp (h := ?_) | refine Yq ?_ | refine Yr ?_ | refine Ys ?_ | refine Zr hc (hk := ?_) | refine Zd hc (hk := ?_) | (refine Zc (ht := fun hb => ?_) (hf := fun hb => ?_) <;> (try simp at hb)) | fail)
    · (refine Zl hc (hr := ?_))
      refine res_int ?_
      simp [period, h2]
    all_goals omega
  obtain ⟨_, f1, f2, f3, f4, f5, f6, f7, f8, f9, f10, f11, f12⟩ := period_facts l h0 (by omega)
  have e2 : l.length - 1 - 1 = l.length - 2 := by omega
  repeat' (first | (first | refine Ya ?_ | refine Yb ?_ | refine Yc ?_ | refine Yd ?_ | refine Ye ?_ | refine Yf ?_ | refine Yg ?_ | refine Yh ?_ | refine Yi ?_ | refine Yj ?_ | refine Yk ?_ | refine Yl ?_ | refine Ym ?_ | refine Yn ?_ | refine Yo ?_ | refine Yp (h := ?_) | refine Yq ?_ | refine Yr ?_ | refine Ys ?_ | refine Zr hc (hk := ?_) | refine Zd hc (hk := ?_) | (refine Zc (ht := fun hb => ?_) (hf := fun hb => ?_) <;> (try simp at hb)) | fail) | (first | refine Zw hc (hf := by exact changes_ok_any _ hlen) (hk := ?_) | refine Zq hc (hf := by exact changes_ok_any _ hlen) (hk := ?_) | refine Zo hc (hk := ?_) | refine Zu hc (hk := ?_) | refine Ze hc (hk := ?_) | refine Zf hc (hk := ?_) | fail))
  · omega
  · (refine Zl hc (hr := ?_))
    refine res_int ?_
    simp [period, h2, hb, e2]
  · (refine Zl hc (hr := ?_))
    refine res_int ?_
    simp [period, h2, hb]
theorem checkPeriod_ok (l : List Vis) (low high : Int) (hm : l.length ≤ 9223372036854775807) : FnOk Tryz.prog 117 [visSl l, int low, int high] (int (askPeriod l low high)) := by
  refine fnOk Tryz.func117 rfl (by kernel_rfl) Tryz.ntmps117 _ rfl (by simp) fun C hc => ?_
  repeat' (first | (first | refine Ya ?_ | refine Yb ?_ | refine Yc ?_ | refine Yd ?_ | refine Ye ?_ | refine Yf ?_ | refine Yg ?_ | refine Yh ?_ | refine Yi ?_ | refine Yj ?_ | refine Yk ?_ | refine Yl ?_ | refine Ym ?_ | refine Yn ?_ | refine Yo ?_ | refine Yp (h := ?_) | refine Yq ?_ | refine Yr ?_ | refine Ys ?_ | refine Zr hc (hk := ?_) | refine Zd hc (hk := ?_) | (refine Zc (ht := fun hb => ?_) (hf := fun hb => ?_) <;> (try simp at hb)) | fail) | (first | refine Zw hc (hf := by first | exact checkVisits_ok _ hm | exact within_ok _ _ _) (hk := ?_) | refine Zq hc (hf := by first | exact checkVisits_ok _ hm | exact within_ok _ _ _) (hk := ?_) | refine Zo hc (hk := ?_) | refine Zu hc (hk := ?_) | refine Ze hc (hk := ?_) | refine Zf hc (hk := ?_) | fail))
  all_goals (refine Zl hc (hr := ?_))
  all_goals refine res_int ?_
  all_goals unfold askPeriod
  all_goals (repeat' split) <;> (first | rfl | (exfalso; omega) | (exfalso; simp_all; done) | grind)
theorem ask_facts {l : List Vis} {low high : Int} (h : askPeriod l low high = 0) : checkVisits l = 0 ∧ 1 ≤ low ∧ low ≤ high ∧ high ≤ 100000000 := by
  unfold askPeriod at h
  split at h
  · omega
  · split at h
    · omega
    · omega
def dueF (l : List Vis) (low high : Int) : Int := if l.length = 0 then 0 else if 253402300799 < (l[l.length - 1]?.getD ((0 : Int), false)).1 + period l low high then 253402300799 else (l[l.length - 1]?.getD ((0 : Int), false)).1 + period l low high
abbrev periodD (l : List Vis) (low high : Int) : D := .tup [int (if askPeriod l low high = 0 then period l low high else 0), int (askPeriod l low high)]
abbrev dueD (l : List Vis) (low high : Int) : D := .tup [int (if askPeriod l low high = 0 then dueF l low high else 0), int (askPeriod l low high)]
theorem period_ok_any {l : List Vis} {low high : Int} (h : askPeriod l low high = 0) : FnOk Tryz.prog 118 [visSl l, int low, int high] (int (period l low high)) :=
  let ⟨h0, h1, h2, h3⟩ := ask_facts h
  period_ok l low high h0 h1 h2 h3
theorem Period_ok (l : List Vis) (low high : Int) (hm : l.length ≤ 9223372036854775807) : FnOk Tryz.prog 53 [visSl l, int low, int high] (periodD l low high) := by
  refine fnOk Tryz.func53 rfl (by kernel_rfl) Tryz.ntmps53 _ rfl (by simp) fun C hc => ?_
  repeat' (first | (first | refine Ya ?_ | refine Yb ?_ | refine Yc ?_ | refine Yd ?_ | refine Ye ?_ | refine Yf ?_ | refine Yg ?_ | refine Yh ?_ | refine Yi ?_ | refine Yj ?_ | refine Yk ?_ | refine Yl ?_ | refine Ym ?_ | refine Yn ?_ | refine Yo ?_ | refine Yp (h := ?_) | refine Yq ?_ | refine Yr ?_ | refine Ys ?_ | refine Zr hc (hk := ?_) | refine Zd hc (hk := ?_) | (refine Zc (ht := fun hb => ?_) (hf := fun hb => ?_) <;> (try simp at hb)) | fail) | (first | refine Zw hc (hf := by first | exact checkPeriod_ok _ _ _ hm | exact period_ok_any (by assumption)) (hk := ?_) | refine Zq hc (hf := by first | exact checkPeriod_ok _ _ _ hm | exact period_ok_any (by assumption)) (hk := ?_) | refine Zo hc (hk := ?_) | refine Zu hc (hk := ?_) | refine Ze hc (hk := ?_) | refine Zf hc (hk := ?_) | fail))
  all_goals (refine Zl hc (hr := ?_))
  all_goals simp_all
end Go.Proofs.YtnainpghpjelcaaGreatDoor
/-
  FRONTIER: what the laws share: 'awake', and how arguments are read.
-/
set_option linter.unusedSimpArgs false
set_option linter.unusedVariables false
namespace Go.Proofs.YtnainpghpjelcaaGreatDoor
open Go.Lw Go.RowKit Go.ChangeShapes Go.WideShapes Go.ChangeAt
set_option maxRecDepth 100000
set_option maxHeartbeats 400000

theorem awake5_ok : FnOk Tryz.prog 15 [] (tru true) := by
  refine fnOk Tryz.func15 rfl (by kernel_rfl) Tryz.ntmps15 _ rfl (by simp) fun C hc => ?_
  have hP : FnOk Tryz.prog 53 [.sl 3 (fun i => [[D.lit (.int .i64 0), .lit (.bool false)], [.lit (.int .i64 100), .lit (.bool true)], [.lit (.int .i64 400), .lit (.bool false)]].getD i [int 0, tru false]), int 1, int 1000] (.tup [int 266, int 0]) := by
    refine FnOk.sim (.cons (Sim.rows (e := encVis) (dflt := (0, false)) [(0, false), (100, true), (400, false)] rfl) (.cons (.refl _) (.cons (.refl _) .nil))) ?_
    have h := Period_ok [(0, false), (100, true), (400, false)] 1 1000 (by simp)
    have e1 : askPeriod [(0, false), (100, true), (400, false)] 1 1000 = 0 := by
      simp [askPeriod, checkVisits, visFrom]
    have e2 : period [(0, false), (100, true), (400, false)] 1 1000 = 266 := by
      simp [period, changes, chFrom]
    rw [show periodD [(0, false), (100, true), (400, false)] 1 1000 = .tup [int 266, int 0] by simp [periodD, e1, e2]] at h
    exact h
  repeat' (first | (first | refine Ya ?_ | refine Yb ?_ | refine Yc ?_ | refine Yd ?_ | refine Ye ?_ | refine Yf ?_ | refine Yg ?_ | refine Yh ?_ | refine Yi ?_ | refine Yj ?_ | refine Yk ?_ | refine Yl ?_ | refine Ym ?_ | refine Yn ?_ | refine Yo ?_ | refine Yp (h := ?_) | refine Yq ?_ | refine Yr ?_ | refine Ys ?_ | refine Zr hc (hk := ?_) | refine Zd hc (hk := ?_) | (refine Zc (ht := fun hb => ?_) (hf := fun hb => ?_) <;> (try simp at hb)) | fail) | (first | refine Zw hc (hf := by exact hP) (hk := ?_) | refine Zq hc (hf := by exact hP) (hk := ?_) | refine Zo hc (hk := ?_) | refine Zu hc (hk := ?_) | refine Ze hc (hk := ?_) | refine Zf hc (hk := ?_) | fail))
  all_goals (refine Zl hc (hr := ?_))
  all_goals simp
theorem opn_vis : Opn Tryz.prog 81 encVis (fun v => inR .i64 v.1) :=
  (opn_flds (total := 2) Tryz.underlying81 rfl (by kernel_rfl) (flds_cons (n := 1) (by kernel_rfl) (by simp) (opn_int Tryz.underlying3) (flds_cons (n := 1) (by kernel_rfl) (by simp) (opn_bool Tryz.underlying4) flds_nil))).map (fun x => (x.1, x.2.1)) (fun _ _ => rfl) (fun _ h => h.1)
theorem opnA_i : OpnA Tryz.prog 3 int (inR .i64) := opnA_cell (opn_int Tryz.underlying3) (fun _ => rfl) (by kernel_rfl)

end Go.Proofs.YtnainpghpjelcaaGreatDoor
