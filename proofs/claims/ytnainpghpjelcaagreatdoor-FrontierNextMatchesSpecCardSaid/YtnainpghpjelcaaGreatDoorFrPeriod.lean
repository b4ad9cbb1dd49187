/-
  FRONTIER: periods.
-/
import Derived.Test.YtnainpghpjelcaaGreatDoorFrVisit
set_option linter.unusedSimpArgs false
set_option linter.unusedVariables false
namespace Go.Proofs.YtnainpghpjelcaaGreatDoor
open Go.Lw
set_option maxRecDepth 100000
set_option maxHeartbeats 400000

theorem tdiv_bd (x y : Int) (hx : 0 ≤ x) (hy : 1 ≤ y) : 0 ≤ x.tdiv y ∧ x.tdiv y ≤ x := by
  rw [Int.tdiv_eq_ediv_of_nonneg hx]
  exact ⟨Int.ediv_nonneg hx (by omega), Int.ediv_le_self y hx⟩

theorem visFrom_lt (l : List Vis) (h : visFrom l 0 = 0) (i d : Nat) (hd : i + d < l.length) : (l[i]?.getD ((0 : Int), false)).1 + d ≤ (l[i + d]?.getD ((0 : Int), false)).1 := by
  induction d with
  | zero => simp
  | succ d ih =>
    have h1 := ih (by omega)
    have h2 := visFrom_incr l 0 h (i + (d + 1)) (by omega) hd (by omega)
    rw [show i + (d + 1) - 1 = i + d by omega] at h2
    omega

/-- What right visits say of the numbers in a period. -/
theorem period_facts (l : List Vis) (h0 : checkVisits l = 0) (h2 : 2 ≤ l.length) :
    l.length ≤ 500 ∧ 0 ≤ (l[l.length - 1]?.getD ((0 : Int), false)).1 ∧ (l[l.length - 1]?.getD ((0 : Int), false)).1 ≤ 253402300799 ∧ 0 ≤ (l[0]?.getD ((0 : Int), false)).1 ∧ (l[0]?.getD ((0 : Int), false)).1 < (l[l.length - 1]?.getD ((0 : Int), false)).1 ∧
    0 ≤ (l[l.length - 1 - 1]?.getD ((0 : Int), false)).1 ∧ (l[l.length - 1 - 1]?.getD ((0 : Int), false)).1 < (l[l.length - 1]?.getD ((0 : Int), false)).1 ∧ 0 ≤ changes l ∧ changes l ≤ 500 ∧
    0 ≤ (2 * ((l[l.length - 1]?.getD ((0 : Int), false)).1 - (l[0]?.getD ((0 : Int), false)).1)).tdiv (2 * changes l + 1) ∧
    (2 * ((l[l.length - 1]?.getD ((0 : Int), false)).1 - (l[0]?.getD ((0 : Int), false)).1)).tdiv (2 * changes l + 1) ≤ 2 * ((l[l.length - 1]?.getD ((0 : Int), false)).1 - (l[0]?.getD ((0 : Int), false)).1) ∧
    0 ≤ ((l[l.length - 1]?.getD ((0 : Int), false)).1 - (l[l.length - 1 - 1]?.getD ((0 : Int), false)).1 + 1).tdiv 2 ∧ ((l[l.length - 1]?.getD ((0 : Int), false)).1 - (l[l.length - 1 - 1]?.getD ((0 : Int), false)).1 + 1).tdiv 2 ≤ (l[l.length - 1]?.getD ((0 : Int), false)).1 - (l[l.length - 1 - 1]?.getD ((0 : Int), false)).1 + 1 := by
  have hlen : l.length ≤ 500 := by unfold checkVisits at h0; split at h0 <;> omega
  have hf : visFrom l 0 = 0 := by unfold checkVisits at h0; split at h0 <;> omega
  have hch := chFrom_bd l 0
  have a1 := visFrom_range l 0 hf (l.length - 1) (by omega) (by omega)
  have a2 := visFrom_range l 0 hf 0 (by omega) (by omega)
  have a3 := visFrom_range l 0 hf (l.length - 1 - 1) (by omega) (by omega)
  have a4 := visFrom_lt l hf 0 (l.length - 1) (by omega)
  have a5 := visFrom_lt l hf (l.length - 1 - 1) 1 (by omega)
  rw [show 0 + (l.length - 1) = l.length - 1 by omega] at a4
  rw [show l.length - 1 - 1 + 1 = l.length - 1 by omega] at a5
  have hc : 0 ≤ changes l ∧ changes l ≤ 500 := by unfold changes; omega
  have t1 := tdiv_bd (2 * ((l[l.length - 1]?.getD ((0 : Int), false)).1 - (l[0]?.getD ((0 : Int), false)).1)) (2 * changes l + 1) (by omega) (by omega)
  have t2 := tdiv_bd ((l[l.length - 1]?.getD ((0 : Int), false)).1 - (l[l.length - 1 - 1]?.getD ((0 : Int), false)).1 + 1) 2 (by omega) (by omega)
  refine ⟨hlen, ?_, ?_, ?_, ?_, ?_, ?_, hc.1, hc.2, t1.1, t1.2, t2.1, t2.2⟩ <;> omega

theorem changes_ok_any (l : List Vis) (h : l.length ≤ 500) : FnOk Tryz.prog 151 [visSl l] (int (changes l)) := changes_ok l (by omega)
theorem period_ok (l : List Vis) (low high : Int) (h0 : checkVisits l = 0) (hlo : 1 ≤ low) (hlh : low ≤ high) (hhi : high ≤ 100000000) : FnOk Tryz.prog 118 [visSl l, int low, int high] (int (period l low high)) := by
  have hlen : l.length ≤ 500 := by unfold checkVisits at h0; split at h0 <;> omega
  refine fnOk Tryz.func118 rfl (by kernel_rfl) Tryz.ntmps118 _ rfl (by simp) fun C hc => ?_
  by_cases h2 : l.length < 2
  · repeat' (first | refine Ya ?_ | refine Yb ?_ | refine Yc ?_ | refine Yd ?_ | refine Ye ?_ | refine Yf ?_ | refine Yg ?_ | refine Yh ?_ | refine Yi ?_ | refine Yj ?_ | refine Yk ?_ | refine Yl ?_ | refine Ym ?_ | refine Yn ?_ | refine Yo ?_ | refine Yp (h := ?_) | refine Yq ?_ | refine Yr ?_ | refine Ys ?_ | refine Zr hc (hk := ?_) | refine Zd hc (hk := ?_) | (refine Zc (ht := fun hb => ?_) (hf := fun hb => ?_) <;> (try simp at hb)) | fail)
    · (refine Zl hc (hr := ?_))
      refine res_int ?_
      simp [period, h2]
    all_goals omega
  obtain ⟨_, f1, f2, f3, f4, f5, f6, f7, f8, f9, f10, f11, f12⟩ := period_facts l h0 (by omega)
  have e2 : l.length - 1 - 1 = l.length - 2 := by omega
  repeat' (first | (first | refine Ya ?_ | refine Yb ?_ | refine Yc ?_ | refine Yd ?_ | refine Ye ?_ | refine Yf ?_ | refine Yg ?_ | refine Yh ?_ | refine Yi ?_ | refine Yj ?_ | refine Yk ?_ | refine Yl ?_ | refine Ym ?_ | refine Yn ?_ | refine Yo ?_ | refine Yp (h := ?_) | refine Yq ?_ | refine Yr ?_ | refine Ys ?_ | refine Zr hc (hk := ?_) | refine Zd hc (hk := ?_) | (refine Zc (ht := fun hb => ?_) (hf := fun hb => ?_) <;> (try simp at hb)) | fail) | (first | refine Zw hc (hf := by exact changes_ok_any _ hlen) (hk := ?_) | refine Zq hc (hf := by exact changes_ok_any _ hlen) (hk := ?_) | refine Zo hc (hk := ?_) | refine Zu hc (hk := ?_) | refine Ze hc (hk := ?_) | refine Zf hc (hk := ?_) | fail))
  · omega
  · (refine Zl hc (hr := ?_))
    refine res_int ?_
    simp [period, h2, hb, e2]
  · (refine Zl hc (hr := ?_))
    refine res_int ?_
    simp [period, h2, hb]
theorem changesR_ok_any (l : List Vis) (h : l.length ≤ 500) : FnOk Tryz.prog 152 [visSl l] (int (changes l)) := changesR_ok l (by omega)
theorem checkPeriod_ok (l : List Vis) (low high : Int) (hm : l.length ≤ 9223372036854775807) : FnOk Tryz.prog 117 [visSl l, int low, int high] (int (askPeriod l low high)) := by
  refine fnOk Tryz.func117 rfl (by kernel_rfl) Tryz.ntmps117 _ rfl (by simp) fun C hc => ?_
  repeat' (first | (first | refine Ya ?_ | refine Yb ?_ | refine Yc ?_ | refine Yd ?_ | refine Ye ?_ | refine Yf ?_ | refine Yg ?_ | refine Yh ?_ | refine Yi ?_ | refine Yj ?_ | refine Yk ?_ | refine Yl ?_ | refine Ym ?_ | refine Yn ?_ | refine Yo ?_ | refine Yp (h := ?_) | refine Yq ?_ | refine Yr ?_ | refine Ys ?_ | refine Zr hc (hk := ?_) | refine Zd hc (hk := ?_) | (refine Zc (ht := fun hb => ?_) (hf := fun hb => ?_) <;> (try simp at hb)) | fail) | (first | refine Zw hc (hf := by first | exact checkVisits_ok _ hm | exact within_ok _ _ _) (hk := ?_) | refine Zq hc (hf := by first | exact checkVisits_ok _ hm | exact within_ok _ _ _) (hk := ?_) | refine Zo hc (hk := ?_) | refine Zu hc (hk := ?_) | refine Ze hc (hk := ?_) | refine Zf hc (hk := ?_) | fail))
  all_goals (refine Zl hc (hr := ?_))
  all_goals refine res_int ?_
  all_goals unfold askPeriod
  all_goals (repeat' split) <;> (first | rfl | (exfalso; omega) | (exfalso; simp_all; done) | grind)
theorem ask_facts {l : List Vis} {low high : Int} (h : askPeriod l low high = 0) : checkVisits l = 0 ∧ 1 ≤ low ∧ low ≤ high ∧ high ≤ 100000000 := by
  unfold askPeriod at h
  split at h
  · omega
  · split at h
    · omega
    · omega
theorem period_range {l : List Vis} {low high : Int} (h : askPeriod l low high = 0) : low ≤ period l low high ∧ period l low high ≤ high := by
  obtain ⟨_, h1, h2, h3⟩ := ask_facts h
  unfold period
  simp only
  repeat' split
  all_goals omega
def dueF (l : List Vis) (low high : Int) : Int := if l.length = 0 then 0 else if 253402300799 < (l[l.length - 1]?.getD ((0 : Int), false)).1 + period l low high then 253402300799 else (l[l.length - 1]?.getD ((0 : Int), false)).1 + period l low high
abbrev periodD (l : List Vis) (low high : Int) : D := .tup [int (if askPeriod l low high = 0 then period l low high else 0), int (askPeriod l low high)]
abbrev dueD (l : List Vis) (low high : Int) : D := .tup [int (if askPeriod l low high = 0 then dueF l low high else 0), int (askPeriod l low high)]
theorem period_ok_any {l : List Vis} {low high : Int} (h : askPeriod l low high = 0) : FnOk Tryz.prog 118 [visSl l, int low, int high] (int (period l low high)) :=
  let ⟨h0, h1, h2, h3⟩ := ask_facts h
  period_ok l low high h0 h1 h2 h3
theorem Period_ok (l : List Vis) (low high : Int) (hm : l.length ≤ 9223372036854775807) : FnOk Tryz.prog 53 [visSl l, int low, int high] (periodD l low high) := by
  refine fnOk Tryz.func53 rfl (by kernel_rfl) Tryz.ntmps53 _ rfl (by simp) fun C hc => ?_
  repeat' (first | (first | refine Ya ?_ | refine Yb ?_ | refine Yc ?_ | refine Yd ?_ | refine Ye ?_ | refine Yf ?_ | refine Yg ?_ | refine Yh ?_ | refine Yi ?_ | refine Yj ?_ | refine Yk ?_ | refine Yl ?_ | refine Ym ?_ | refine Yn ?_ | refine Yo ?_ | refine Yp (h := ?_) | refine Yq ?_ | refine Yr ?_ | refine Ys ?_ | refine Zr hc (hk := ?_) | refine Zd hc (hk := ?_) | (refine Zc (ht := fun hb => ?_) (hf := fun hb => ?_) <;> (try simp at hb)) | fail) | (first | refine Zw hc (hf := by first | exact checkPeriod_ok _ _ _ hm | exact period_ok_any (by assumption)) (hk := ?_) | refine Zq hc (hf := by first | exact checkPeriod_ok _ _ _ hm | exact period_ok_any (by assumption)) (hk := ?_) | refine Zo hc (hk := ?_) | refine Zu hc (hk := ?_) | refine Ze hc (hk := ?_) | refine Zf hc (hk := ?_) | fail))
  all_goals (refine Zl hc (hr := ?_))
  all_goals simp_all
theorem last_range {l : List Vis} {low high : Int} (h : askPeriod l low high = 0) (hl : 1 ≤ l.length) : 0 ≤ (l[l.length - 1]?.getD ((0 : Int), false)).1 ∧ (l[l.length - 1]?.getD ((0 : Int), false)).1 ≤ 253402300799 := by
  obtain ⟨h0, _⟩ := ask_facts h
  have hf : visFrom l 0 = 0 := by unfold checkVisits at h0; split at h0 <;> omega
  exact visFrom_range l 0 hf (l.length - 1) (by omega) (by omega)
end Go.Proofs.YtnainpghpjelcaaGreatDoor
