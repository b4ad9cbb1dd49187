/-
  CHAPTER 5's REFERENCE: hosts of keys, since, isOpen, next, Next, opens, Wait, Spent. (WITH run_drawN.)
-/
import Derived.Test.YtnainpghpjelcaaGreatDoorFnB
import Derived.Test.YtnainpghpjelcaaGreatDoorFnD
import Derived.Test.YtnainpghpjelcaaGreatDoorFnT
set_option linter.unusedSimpArgs false
set_option linter.unusedVariables false
namespace Go.Proofs.YtnainpghpjelcaaGreatDoor
open Go.Lw Go.RowKit
set_option maxRecDepth 100000
set_option maxHeartbeats 2000000

/-- The number of a host, or -1. -/
def hIdx (H : List Hst) (s : Bs) : Int := if thereB (nameAt H) H.length s = true then (lbB (nameAt H) H.length s : Int) else -1
theorem hIdx_is {H : List Hst} {s : Bs} (ha : ascB (nameAt H) H.length) {j : Nat} (hj : j < H.length) (he : nameAt H j = s) : hIdx H s = (j : Int) := by
  have e : lbB (nameAt H) H.length s = j := lbB_of (by omega) (fun i hi => by rw [← he]; exact ha i j hi hj) (fun _ => by rw [he]; exact bl_irrefl _)
  unfold hIdx thereB
  rw [e, if_pos (by simp [hj, he])]
theorem hIdx_no {H : List Hst} {s : Bs} (h : ∀ j, j < H.length → nameAt H j ≠ s) : hIdx H s = -1 := by
  unfold hIdx thereB
  rw [if_neg]
  simp only [Bool.and_eq_true, decide_eq_true_eq]
  exact fun e => h _ e.1 e.2
theorem hIdx_cases (H : List Hst) (s : Bs) : hIdx H s = -1 ∨ ∃ j : Nat, hIdx H s = (j : Int) ∧ j < H.length ∧ j = lbB (nameAt H) H.length s ∧ thereB (nameAt H) H.length s = true := by
  unfold hIdx
  by_cases h : thereB (nameAt H) H.length s = true
  · rw [if_pos h]
    refine .inr ⟨_, rfl, ?_, rfl, h⟩
    unfold thereB at h
    simp at h
    exact h.1
  · rw [if_neg h]
    exact .inl rfl
theorem qHostIdx_ok (f : Frt) (s : Bs) (hl : f.hosts.length ≤ 300) (ha : ascB (nameAt f.hosts) f.hosts.length) : FnOk Tryz.prog 88 [frD f, str s] (int (hIdx f.hosts s)) := by
  refine fnOk Tryz.func88 rfl (by kernel_rfl) Tryz.ntmps88 _ rfl (by simp) fun C hc => ?_
  repeat' (first | (first | refine Ya ?_ | refine Yb ?_ | refine Yc ?_ | refine Yd ?_ | refine Ye ?_ | refine Yf ?_ | refine Yg ?_ | refine Yh ?_ | refine Yi ?_ | refine Yj ?_ | refine Yk ?_ | refine Yl ?_ | refine Ym ?_ | refine Yn ?_ | refine Yo ?_ | refine Yp (h := ?_) | refine Yq ?_ | refine Yr ?_ | refine Ys ?_ | refine Zr hc (hk := ?_) | refine Zd hc (hk := ?_) | (refine Zc (ht := fun hb => ?_) (hf := fun hb => ?_) <;> (try simp at hb)) | fail) | (first | refine Zo hc (hk := ?_) | refine Zu hc (hk := ?_) | refine Ze hc (hk := ?_) | refine Zn hc (hk := ?_) | fail))
  refine ewp_loop (fun j : Nat => ⟨[(1, .d (str s)), (8, .d (hstSl f.hosts)), (9, .d (int f.hosts.length)), (10, .d (int j))], []⟩) (fun j => j ≤ f.hosts.length ∧ ∀ i, i < j → nameAt f.hosts i ≠ s) (fun j => f.hosts.length - j) 0 (by simp) (run_keep [1, 8, 9, 10] [] (by simp; exact Gives.mk) (by simp; exact Gives.mk)) ?_
  rintro j ⟨hj, hA⟩
  repeat' (first | (first | refine Ya ?_ | refine Yb ?_ | refine Yc ?_ | refine Yd ?_ | refine Ye ?_ | refine Yf ?_ | refine Yg ?_ | refine Yh ?_ | refine Yi ?_ | refine Yj ?_ | refine Yk ?_ | refine Yl ?_ | refine Ym ?_ | refine Yn ?_ | refine Yo ?_ | refine Yp (h := ?_) | refine Yq ?_ | refine Yr ?_ | refine Ys ?_ | refine Zr hc (hk := ?_) | refine Zd hc (hk := ?_) | (refine Zc (ht := fun hb => ?_) (hf := fun hb => ?_) <;> (try simp at hb)) | fail) | (first | refine Zo hc (hk := ?_) | refine Zu hc (hk := ?_) | refine Ze hc (hk := ?_) | refine Zn hc (hk := ?_) | fail))
  all_goals try (exfalso; omega)
  · rw [hIdx_is ha (by assumption) hb]
    (refine Zl hc (hr := ?_))
    simp
  · refine ⟨j + 1, ⟨by omega, fun i hi => ?_⟩, by omega, run_back [1, 8, 9, 10] [] (by simp; exact Gives.mk) (by simp; exact Gives.mk) (by simp)⟩
    rcases Nat.lt_or_ge i j with h | h
    · exact hA i h
    · obtain rfl : i = j := by omega
      exact hb
  · rw [hIdx_no fun i hi => hA i (by omega)]
    (refine Zl hc (hr := ?_))
    simp
theorem qName_ok (k : Bs) (h : (ofK k).2 = 0) : FnOk Tryz.prog 115 [str k] (str (hostK k)) := by
  refine fnOk Tryz.func115 rfl (by kernel_rfl) Tryz.ntmps115 _ rfl (by simp) fun C hc => ?_
  have kl : k.length ≤ 2000 := (ofK_cases _).elim (fun h' => absurd h h'.1) (·.2.1)
  have h1 := qHostF_ok k (by omega)
  have e : hostC k = (hostK k, 0) := by unfold hostC; rw [if_pos h]
  rw [e] at h1
  generalize hostK k = s at h1 ⊢
  repeat' (first | (first | refine Ya ?_ | refine Yb ?_ | refine Yc ?_ | refine Yd ?_ | refine Ye ?_ | refine Yf ?_ | refine Yg ?_ | refine Yh ?_ | refine Yi ?_ | refine Yj ?_ | refine Yk ?_ | refine Yl ?_ | refine Ym ?_ | refine Yn ?_ | refine Yo ?_ | refine Yp (h := ?_) | refine Yq ?_ | refine Yr ?_ | refine Ys ?_ | refine Zr hc (hk := ?_) | refine Zd hc (hk := ?_) | (refine Zc (ht := fun hb => ?_) (hf := fun hb => ?_) <;> (try simp at hb)) | fail) | (first | refine Zw hc (hf := by exact h1) (hk := ?_) | refine Zq hc (hf := by exact h1) (hk := ?_) | refine Zo hc (hk := ?_) | refine Zu hc (hk := ?_) | refine Ze hc (hk := ?_) | refine Zn hc (hk := ?_) | fail))
  (refine Zl hc (hr := ?_))
  simp
/-- The host of a key. -/
def hostFor (f : Frt) (k : Bs) : Hst := if thereB (nameAt f.hosts) f.hosts.length (hostK k) = true then hstAt f.hosts (lbB (nameAt f.hosts) f.hosts.length (hostK k)) else (hostK k, 0, false, [])
theorem qHostFor_ok (f : Frt) (k : Bs) (hg : FrGood f) (h : (ofK k).2 = 0) : FnOk Tryz.prog 113 [frD f, str k] (hstD (hostFor f k)) := by
  have h1 := qName_ok k h
  have h2 := qHostIdx_ok f (hostK k) hg.hosts hg.names
  have hcs := hIdx_cases f.hosts (hostK k)
  have hno : hIdx f.hosts (hostK k) = -1 → ¬ thereB (nameAt f.hosts) f.hosts.length (hostK k) = true := fun e h => by
    unfold hIdx at e
    rw [if_pos h] at e
    omega
  unfold hostFor
  generalize hIdx f.hosts (hostK k) = n at h2 hcs hno
  generalize hostK k = s at h1 h2 hcs hno ⊢
  rcases hcs with rfl | ⟨j, rfl, hj, hjl, ht⟩
  · rw [if_neg (hno rfl)]
    clear hno
    refine FnOk.sameR (res := .agg [str s, int 0, tru false, .lit (.slice none 0 0)]) (Same.agg (.cons (Same.refl _) (.cons (Same.refl _) (.cons (Same.refl _) (.cons (weak_nil _) .nil))))) ?_
    refine fnOk Tryz.func113 rfl (by kernel_rfl) Tryz.ntmps113 _ rfl (by simp) fun C hc => ?_
    repeat' (first | (first | refine Ya ?_ | refine Yb ?_ | refine Yc ?_ | refine Yd ?_ | refine Ye ?_ | refine Yf ?_ | refine Yg ?_ | refine Yh ?_ | refine Yi ?_ | refine Yj ?_ | refine Yk ?_ | refine Yl ?_ | refine Ym ?_ | refine Yn ?_ | refine Yo ?_ | refine Yp (h := ?_) | refine Yq ?_ | refine Yr ?_ | refine Ys ?_ | refine Zr hc (hk := ?_) | refine Zd hc (hk := ?_) | (refine Zc (ht := fun hb => ?_) (hf := fun hb => ?_) <;> (try simp at hb)) | fail) | (first | refine Zw hc (hf := by first | exact h1 | exact h2) (hk := ?_) | refine Zq hc (hf := by first | exact h1 | exact h2) (hk := ?_) | refine Zo hc (hk := ?_) | refine Zu hc (hk := ?_) | refine Ze hc (hk := ?_) | refine Zn hc (hk := ?_) | fail))
    all_goals try contradiction
    all_goals try (exfalso; omega)
    (refine Zl hc (hr := ?_))
    simp
  · rw [if_pos ht, ← hjl]
    clear hno ht hjl
    refine fnOk Tryz.func113 rfl (by kernel_rfl) Tryz.ntmps113 _ rfl (by simp) fun C hc => ?_
    repeat' (first | (first | refine Ya ?_ | refine Yb ?_ | refine Yc ?_ | refine Yd ?_ | refine Ye ?_ | refine Yf ?_ | refine Yg ?_ | refine Yh ?_ | refine Yi ?_ | refine Yj ?_ | refine Yk ?_ | refine Yl ?_ | refine Ym ?_ | refine Yn ?_ | refine Yo ?_ | refine Yp (h := ?_) | refine Yq ?_ | refine Yr ?_ | refine Ys ?_ | refine Zr hc (hk := ?_) | refine Zd hc (hk := ?_) | (refine Zc (ht := fun hb => ?_) (hf := fun hb => ?_) <;> (try simp at hb)) | fail) | (first | refine Zw hc (hf := by first | exact h1 | exact h2) (hk := ?_) | refine Zq hc (hf := by first | exact h1 | exact h2) (hk := ?_) | refine Zo hc (hk := ?_) | refine Zu hc (hk := ?_) | refine Ze hc (hk := ?_) | refine Zn hc (hk := ?_) | fail))
    all_goals try contradiction
    all_goals try (exfalso; omega)
    (refine Zl hc (hr := ?_))
    simp
def sinceGo (l : List Int) (m : Int) (j : Nat) : Nat := if j < l.length then (if m < l[j]?.getD 0 then 1 else 0) + sinceGo l m (j + 1) else 0
termination_by l.length - j
theorem sinceGo_le (l : List Int) (m : Int) (j : Nat) : sinceGo l m j ≤ l.length - j := by
  rw [sinceGo]
  split
  · have := sinceGo_le l m (j + 1)
    split <;> omega
  · omega
termination_by l.length - j
theorem qSince_ok (x : Hst) (m : Int) (hl : x.2.2.2.length ≤ 200) : FnOk Tryz.prog 89 [hstD x, int m] (int (sinceGo x.2.2.2 m 0)) := by
  refine fnOk Tryz.func89 rfl (by kernel_rfl) Tryz.ntmps89 _ rfl (by simp) fun C hc => ?_
  obtain ⟨nm, fr, bz, l⟩ := x
  simp only at hl ⊢
  repeat' (first | (first | refine Ya ?_ | refine Yb ?_ | refine Yc ?_ | refine Yd ?_ | refine Ye ?_ | refine Yf ?_ | refine Yg ?_ | refine Yh ?_ | refine Yi ?_ | refine Yj ?_ | refine Yk ?_ | refine Yl ?_ | refine Ym ?_ | refine Yn ?_ | refine Yo ?_ | refine Yp (h := ?_) | refine Yq ?_ | refine Yr ?_ | refine Ys ?_ | refine Zr hc (hk := ?_) | refine Zd hc (hk := ?_) | (refine Zc (ht := fun hb => ?_) (hf := fun hb => ?_) <;> (try simp at hb)) | fail) | (first | refine Zo hc (hk := ?_) | refine Zu hc (hk := ?_) | refine Ze hc (hk := ?_) | refine Zn hc (hk := ?_) | fail))
  refine ewp_loop (fun x : Nat × Nat => ⟨[(1, .d (int m)), (5, .d (int x.2)), (9, .d (intSl l)), (10, .d (int l.length)), (11, .d (int x.1))], []⟩) (fun x => x.1 ≤ l.length ∧ x.2 ≤ x.1 ∧ sinceGo l m 0 = x.2 + sinceGo l m x.1) (fun x => l.length - x.1) (0, 0) (by simp) (run_keep [1, 5, 9, 10, 11] [] (by simp; exact Gives.mk) (by simp; exact Gives.mk)) ?_
  rintro ⟨j, n⟩ ⟨hj, hn, hA⟩
  simp only at hj hn hA ⊢
  by_cases hlt : j < l.length
  · rw [sinceGo.eq_def l m j, if_pos hlt] at hA
    repeat' (first | (first | refine Ya ?_ | refine Yb ?_ | refine Yc ?_ | refine Yd ?_ | refine Ye ?_ | refine Yf ?_ | refine Yg ?_ | refine Yh ?_ | refine Yi ?_ | refine Yj ?_ | refine Yk ?_ | refine Yl ?_ | refine Ym ?_ | refine Yn ?_ | refine Yo ?_ | refine Yp (h := ?_) | refine Yq ?_ | refine Yr ?_ | refine Ys ?_ | refine Zr hc (hk := ?_) | refine Zd hc (hk := ?_) | (refine Zc (ht := fun hb => ?_) (hf := fun hb => ?_) <;> (try simp at hb)) | fail) | (first | refine Zo hc (hk := ?_) | refine Zu hc (hk := ?_) | refine Ze hc (hk := ?_) | refine Zn hc (hk := ?_) | fail))
    all_goals try (exfalso; omega)
    · rw [if_pos hb] at hA
      exact ⟨(j + 1, n + 1), ⟨by simp only; omega, by simp only; omega, by simp only; omega⟩, by simp only; omega, run_back [1, 5, 9, 10, 11] [] (by simp; exact Gives.mk) (by simp; exact Gives.mk) (by simp)⟩
    · rw [if_neg (by omega)] at hA
      exact ⟨(j + 1, n), ⟨by simp only; omega, by simp only; omega, by simp only; omega⟩, by simp only; omega, run_back [1, 5, 9, 10, 11] [] (by simp; exact Gives.mk) (by simp; exact Gives.mk) (by simp)⟩
  · rw [sinceGo.eq_def l m j, if_neg hlt] at hA
    repeat' (first | (first | refine Ya ?_ | refine Yb ?_ | refine Yc ?_ | refine Yd ?_ | refine Ye ?_ | refine Yf ?_ | refine Yg ?_ | refine Yh ?_ | refine Yi ?_ | refine Yj ?_ | refine Yk ?_ | refine Yl ?_ | refine Ym ?_ | refine Yn ?_ | refine Yo ?_ | refine Yp (h := ?_) | refine Yq ?_ | refine Yr ?_ | refine Ys ?_ | refine Zr hc (hk := ?_) | refine Zd hc (hk := ?_) | (refine Zc (ht := fun hb => ?_) (hf := fun hb => ?_) <;> (try simp at hb)) | fail) | (first | refine Zo hc (hk := ?_) | refine Zu hc (hk := ?_) | refine Ze hc (hk := ?_) | refine Zn hc (hk := ?_) | fail))
    all_goals try (exfalso; omega)
    rw [hA]
    (refine Zl hc (hr := ?_))
    simp
/-- Is a host open? -/
def isOpenQ (f : Frt) (x : Hst) (t : Int) : Bool := !x.2.2.1 && decide (x.2.1 ≤ t) && decide ((sinceGo x.2.2.2 (t - f.window) 0 : Int) < f.budget)
theorem qIsOpen_ok (f : Frt) (x : Hst) (t : Int) (ht : okM t) (hw : 1 ≤ f.window ∧ f.window ≤ 100000000) (hl : x.2.2.2.length ≤ 200) : FnOk Tryz.prog 146 [frD f, hstD x, int t] (tru (isOpenQ f x t)) := by
  refine fnOk Tryz.func146 rfl (by kernel_rfl) Tryz.ntmps146 _ rfl (by simp) fun C hc => ?_
  have h1 := qSince_ok x (t - f.window) hl
  obtain ⟨I, H, bu, wi⟩ := f
  obtain ⟨w1, w2⟩ := hw
  obtain ⟨t1, t2⟩ := ht
  simp only at h1 w1 w2
  unfold isOpenQ
  simp only
  generalize sinceGo x.2.2.2 (t - wi) 0 = sn at h1 ⊢
  repeat' (first | (first | refine Ya ?_ | refine Yb ?_ | refine Yc ?_ | refine Yd ?_ | refine Ye ?_ | refine Yf ?_ | refine Yg ?_ | refine Yh ?_ | refine Yi ?_ | refine Yj ?_ | refine Yk ?_ | refine Yl ?_ | refine Ym ?_ | refine Yn ?_ | refine Yo ?_ | refine Yp (h := ?_) | refine Yq ?_ | refine Yr ?_ | refine Ys ?_ | refine Zr hc (hk := ?_) | refine Zd hc (hk := ?_) | (refine Zc (ht := fun hb => ?_) (hf := fun hb => ?_) <;> (try simp at hb)) | fail) | (first | refine Zw hc (hf := by exact h1) (hk := ?_) | refine Zq hc (hf := by exact h1) (hk := ?_) | refine Zo hc (hk := ?_) | refine Zu hc (hk := ?_) | refine Ze hc (hk := ?_) | refine Zn hc (hk := ?_) | fail))
  (refine Zl hc (hr := ?_))
  simp
theorem hostFor_small (f : Frt) (k : Bs) (hg : FrGood f) : (hostFor f k).2.2.2.length ≤ 200 := by
  unfold hostFor
  split
  · rename_i h
    unfold thereB at h
    simp at h
    exact hg.many _ h.1
  · simp
/-- May an item be fetched at a moment? -/
def rdyQ (f : Frt) (t : Int) (x : Wnt) : Bool := decide (x.2.2 ≤ t) && isOpenQ f (hostFor f x.1) t
theorem qNext_ok (f : Frt) (t : Int) (hg : FrGood f) (ht : okM t) : FnOk Tryz.prog 85 [frD f, int t] (int (nextGo f.items (rdyQ f t) 0 (-1))) := by
  refine fnOk Tryz.func85 rfl (by kernel_rfl) Tryz.ntmps85 _ rfl (by simp) fun C hc => ?_
  have hil := hg.items
  repeat' (first | (first | refine Ya ?_ | refine Yb ?_ | refine Yc ?_ | refine Yd ?_ | refine Ye ?_ | refine Yf ?_ | refine Yg ?_ | refine Yh ?_ | refine Yi ?_ | refine Yj ?_ | refine Yk ?_ | refine Yl ?_ | refine Ym ?_ | refine Yn ?_ | refine Yo ?_ | refine Yp (h := ?_) | refine Yq ?_ | refine Yr ?_ | refine Ys ?_ | refine Zr hc (hk := ?_) | refine Zd hc (hk := ?_) | (refine Zc (ht := fun hb => ?_) (hf := fun hb => ?_) <;> (try simp at hb)) | fail) | (first | refine Zo hc (hk := ?_) | refine Zu hc (hk := ?_) | refine Ze hc (hk := ?_) | refine Zn hc (hk := ?_) | fail))
  refine ewp_loop (fun x : Nat × Int => ⟨[(1, .d (int t)), (2, .bp 2 0), (5, .d (int x.2)), (9, .d (wntSl f.items)), (10, .d (int f.items.length)), (11, .d (int x.1))], [(2, .box 25 [.d (wntSl f.items), .d (hstSl f.hosts), .d (int f.budget), .d (int f.window)])]⟩)
    (fun x => x.1 ≤ f.items.length ∧ -1 ≤ x.2 ∧ x.2 < x.1 ∧ nextGo f.items (rdyQ f t) 0 (-1) = nextGo f.items (rdyQ f t) x.1 x.2) (fun x => f.items.length - x.1) (0, -1) (by simp) (run_keep [1, 2, 5, 9, 10, 11] [2] (by simp; exact Gives.mk) (by simp; exact Gives.mk)) ?_
  rintro ⟨j, b⟩ ⟨hj, hb1, hb2, hA⟩
  simp only at hj hb1 hb2 hA ⊢
  by_cases hlt : j < f.items.length
  rotate_left
  · rw [nextGo.eq_def f.items (rdyQ f t) j b, if_neg hlt] at hA
    repeat' (first | (first | refine Ya ?_ | refine Yb ?_ | refine Yc ?_ | refine Yd ?_ | refine Ye ?_ | refine Yf ?_ | refine Yg ?_ | refine Yh ?_ | refine Yi ?_ | refine Yj ?_ | refine Yk ?_ | refine Yl ?_ | refine Ym ?_ | refine Yn ?_ | refine Yo ?_ | refine Yp (h := ?_) | refine Yq ?_ | refine Yr ?_ | refine Ys ?_ | refine Zr hc (hk := ?_) | refine Zd hc (hk := ?_) | (refine Zc (ht := fun hb => ?_) (hf := fun hb => ?_) <;> (try simp at hb)) | fail) | (first | refine Zo hc (hk := ?_) | refine Zu hc (hk := ?_) | refine Ze hc (hk := ?_) | refine Zn hc (hk := ?_) | fail))
    all_goals try (exfalso; omega)
    rw [hA]
    (refine Zl hc (hr := ?_))
    simp
  rw [nextGo.eq_def f.items (rdyQ f t) j b, if_pos hlt] at hA
  obtain ⟨k1, k2, k3⟩ := wnt_key (hg.wnt j hlt)
  have h1 := qHostFor_ok f (wntAt f.items j).1 hg k1
  have h2 := qIsOpen_ok f (hostFor f (wntAt f.items j).1) t ht hg.window (hostFor_small f _ hg)
  have hr : rdyQ f t (wntAt f.items j) = (decide ((wntAt f.items j).2.2 ≤ t) && isOpenQ f (hostFor f (wntAt f.items j).1) t) := rfl
  generalize isOpenQ f (hostFor f (wntAt f.items j).1) t = op at h2 hr
  generalize hostFor f (wntAt f.items j).1 = hh at h1 h2
  generalize rdyQ f t (wntAt f.items j) = rd at hr hA
  repeat' (first | refine Ya ?_ | refine Yb ?_ | refine Yc ?_ | refine Yd ?_ | refine Ye ?_ | refine Yf ?_ | refine Yg ?_ | refine Yh ?_ | refine Yi ?_ | refine Yj ?_ | refine Yk ?_ | refine Yl ?_ | refine Ym ?_ | refine Yn ?_ | refine Yo ?_ | refine Yp (h := ?_) | refine Yq ?_ | refine Yr ?_ | refine Ys ?_ | refine Zr hc (hk := ?_) | refine Zd hc (hk := ?_) | (refine Zc (ht := fun hb => ?_) (hf := fun hb => ?_) <;> (try simp at hb)) | fail)
  rotate_left
  · exfalso; omega
  (apply run_drawAny 14 hc (by kernel_rfl) rfl; (focus (refine run_anyP 0 hc rfl (by kernel_rfl) rfl (by simp; exact Gives.mk) (by first | exact True.intro | omega | (simp; done) | (simp; omega) | (simp at *; omega)) (by simp) (by simp) (by simp; exact Gives.mk) ?_; refine run_anyM 2 hc rfl (by kernel_rfl) rfl (by first | exact .inl rfl | exact .inr rfl) (by simp; exact Gives.mk) (by simp) (by simp; exact Gives.mk) ?_; refine anyW_all [1] (by kernel_rfl) rfl ?_; (focus (refine run_stepW hc rfl (by simp; exact Ends.go) (by first | exact True.intro | omega | (simp; done) | (simp; omega) | (simp at *; omega)) ?_; refine run_anyP 3 hc rfl (by kernel_rfl) rfl (by simp; exact Gives.mk) (by first | exact True.intro | omega | (simp; done) | (simp; omega) | (simp at *; omega)) (by simp) (by simp) (by simp; exact Gives.mk) ?_; refine run_anyM 4 hc rfl (by kernel_rfl) rfl (by first | exact .inl rfl | exact .inr rfl) (by simp; exact Gives.mk) (by simp) (by simp; exact Gives.mk) ?_; refine run_anyG 7 hc rfl (by kernel_rfl) (by simp; exact Gives.mk) (by simp; exact Gives.mk) (fun _ => (by first | exact True.intro | omega | (simp; done) | (simp; omega) | (simp at *; omega))) (by simp) (by simp) (by simp; exact Gives.mk) ?_; refine run_anyG 10 hc rfl (by kernel_rfl) (by simp; exact Gives.mk) (by simp; exact Gives.mk) (fun _ => (by first | exact True.intro | omega | (simp; done) | (simp; omega) | (simp at *; omega))) (by simp) (by simp) (by simp; exact Gives.mk) ?_; refine anyW_all [5, 6, 8] (by kernel_rfl) rfl ?_; refine ⟨?_, ?_, ?_⟩; (focus (refine run_stepW hc rfl (by simp; exact Ends.go) (by first | exact True.intro | omega | (simp; done) | (simp; omega) | (simp at *; omega)) ?_; refine anyW_all [6, 8] (by kernel_rfl) rfl ?_; refine ⟨?_, ?_⟩; (focus (refine run_stepW hc rfl (by simp; exact Ends.go) (by first | exact True.intro | omega | (simp; done) | (simp; omega) | (simp at *; omega)) ?_; refine anyW_all [8] (by kernel_rfl) rfl ?_; (focus (refine run_stepW hc rfl (by simp; exact Ends.go) (by first | exact True.intro | omega | (simp; done) | (simp; omega) | (simp at *; omega)) ?_; refine anyW_all [9] (by kernel_rfl) rfl ?_; (focus ((first | refine run_stepC hc rfl rfl (by simp; exact Gives.mk) (by simp; exact Gives.mk) (by simp; exact Gives.mk) (by simp; exact Gives.mk) (by simp; exact Gives.mk) (fun _ => h1) (by simp) (by simp) ?_ | refine run_stepC hc rfl rfl (by simp; exact Gives.mk) (by simp; exact Gives.mk) (by simp; exact Gives.mk) (by simp; exact Gives.mk) (by simp; exact Gives.mk) (fun _ => h2) (by simp) (by simp) ?_); refine anyW_all [11] (by kernel_rfl) rfl ?_; (focus ((first | refine run_stepC hc rfl rfl (by simp; exact Gives.mk) (by simp; exact Gives.mk) (by simp; exact Gives.mk) (by simp; exact Gives.mk) (by simp; exact Gives.mk) (fun _ => h1) (by simp) (by simp) ?_ | refine run_stepC hc rfl rfl (by simp; exact Gives.mk) (by simp; exact Gives.mk) (by simp; exact Gives.mk) (by simp; exact Gives.mk) (by simp; exact Gives.mk) (fun _ => h2) (by simp) (by simp) ?_); refine run_anyG 12 hc rfl (by kernel_rfl) (by simp; exact Gives.mk) (by simp; exact Gives.mk) (fun _ => (by first | exact True.intro | omega | (simp; done) | (simp; omega) | (simp at *; omega))) (by simp) (by simp) (by simp; exact Gives.mk) ?_; refine run_anyP 13 hc rfl (by kernel_rfl) rfl (by simp; exact Gives.mk) (by first | exact True.intro | omega | (simp; done) | (simp; omega) | (simp at *; omega)) (by simp) (by simp) (by simp; exact Gives.mk) ?_; refine anyW_done (by kernel_rfl) ?_; exact run_keep [1, 2, 5, 6, 7, 9, 10, 11, 29] [2, 7] (by simp; try exact Gives.mk) (by simp; try exact Gives.mk))))))))); (focus (refine run_stepW hc rfl (by simp; exact Ends.go) (by first | exact True.intro | omega | (simp; done) | (simp; omega) | (simp at *; omega)) ?_; refine anyW_all [6] (by kernel_rfl) rfl ?_; (focus (refine run_stepW hc rfl (by simp; exact Ends.go) (by first | exact True.intro | omega | (simp; done) | (simp; omega) | (simp at *; omega)) ?_; refine anyW_all [9] (by kernel_rfl) rfl ?_; (focus ((first | refine run_stepC hc rfl rfl (by simp; exact Gives.mk) (by simp; exact Gives.mk) (by simp; exact Gives.mk) (by simp; exact Gives.mk) (by simp; exact Gives.mk) (fun _ => h1) (by simp) (by simp) ?_ | refine run_stepC hc rfl rfl (by simp; exact Gives.mk) (by simp; exact Gives.mk) (by simp; exact Gives.mk) (by simp; exact Gives.mk) (by simp; exact Gives.mk) (fun _ => h2) (by simp) (by simp) ?_); refine anyW_all [11] (by kernel_rfl) rfl ?_; (focus ((first | refine run_stepC hc rfl rfl (by simp; exact Gives.mk) (by simp; exact Gives.mk) (by simp; exact Gives.mk) (by simp; exact Gives.mk) (by simp; exact Gives.mk) (fun _ => h1) (by simp) (by simp) ?_ | refine run_stepC hc rfl rfl (by simp; exact Gives.mk) (by simp; exact Gives.mk) (by simp; exact Gives.mk) (by simp; exact Gives.mk) (by simp; exact Gives.mk) (fun _ => h2) (by simp) (by simp) ?_); refine run_anyG 12 hc rfl (by kernel_rfl) (by simp; exact Gives.mk) (by simp; exact Gives.mk) (fun _ => (by first | exact True.intro | omega | (simp; done) | (simp; omega) | (simp at *; omega))) (by simp) (by simp) (by simp; exact Gives.mk) ?_; refine run_anyP 13 hc rfl (by kernel_rfl) rfl (by simp; exact Gives.mk) (by first | exact True.intro | omega | (simp; done) | (simp; omega) | (simp at *; omega)) (by simp) (by simp) (by simp; exact Gives.mk) ?_; refine anyW_done (by kernel_rfl) ?_; exact run_back [1, 2, 5, 6, 7, 9, 10, 11, 29] [2, 7] (by simp; exact Gives.mk) (by simp; exact Gives.mk) (by simp))))))))))); (focus (refine run_stepW hc rfl (by simp; exact Ends.go) (by first | exact True.intro | omega | (simp; done) | (simp; omega) | (simp at *; omega)) ?_; refine anyW_all [5, 8] (by kernel_rfl) rfl ?_; refine ⟨?_, ?_⟩; (focus (refine run_stepW hc rfl (by simp; exact Ends.go) (by first | exact True.intro | omega | (simp; done) | (simp; omega) | (simp at *; omega)) ?_; refine anyW_all [8] (by kernel_rfl) rfl ?_; (focus (refine run_stepW hc rfl (by simp; exact Ends.go) (by first | exact True.intro | omega | (simp; done) | (simp; omega) | (simp at *; omega)) ?_; refine anyW_all [9] (by kernel_rfl) rfl ?_; (focus ((first | refine run_stepC hc rfl rfl (by simp; exact Gives.mk) (by simp; exact Gives.mk) (by simp; exact Gives.mk) (by simp; exact Gives.mk) (by simp; exact Gives.mk) (fun _ => h1) (by simp) (by simp) ?_ | refine run_stepC hc rfl rfl (by simp; exact Gives.mk) (by simp; exact Gives.mk) (by simp; exact Gives.mk) (by simp; exact Gives.mk) (by simp; exact Gives.mk) (fun _ => h2) (by simp) (by simp) ?_); refine anyW_all [11] (by kernel_rfl) rfl ?_; (focus ((first | refine run_stepC hc rfl rfl (by simp; exact Gives.mk) (by simp; exact Gives.mk) (by simp; exact Gives.mk) (by simp; exact Gives.mk) (by simp; exact Gives.mk) (fun _ => h1) (by simp) (by simp) ?_ | refine run_stepC hc rfl rfl (by simp; exact Gives.mk) (by simp; exact Gives.mk) (by simp; exact Gives.mk) (by simp; exact Gives.mk) (by simp; exact Gives.mk) (fun _ => h2) (by simp) (by simp) ?_); refine run_anyG 12 hc rfl (by kernel_rfl) (by simp; exact Gives.mk) (by simp; exact Gives.mk) (fun _ => (by first | exact True.intro | omega | (simp; done) | (simp; omega) | (simp at *; omega))) (by simp) (by simp) (by simp; exact Gives.mk) ?_; refine run_anyP 13 hc rfl (by kernel_rfl) rfl (by simp; exact Gives.mk) (by first | exact True.intro | omega | (simp; done) | (simp; omega) | (simp at *; omega)) (by simp) (by simp) (by simp; exact Gives.mk) ?_; refine anyW_done (by kernel_rfl) ?_; exact run_back [1, 2, 5, 6, 7, 9, 10, 11, 29] [2, 7] (by simp; exact Gives.mk) (by simp; exact Gives.mk) (by simp))))))))); (focus (refine run_stepW hc rfl (by simp; exact Ends.go) (by first | exact True.intro | omega | (simp; done) | (simp; omega) | (simp at *; omega)) ?_; refine anyW_all [5, 9] (by kernel_rfl) rfl ?_; refine ⟨?_, ?_⟩; (focus (refine run_stepW hc rfl (by simp; exact Ends.go) (by first | exact True.intro | omega | (simp; done) | (simp; omega) | (simp at *; omega)) ?_; refine anyW_all [9] (by kernel_rfl) rfl ?_; (focus ((first | refine run_stepC hc rfl rfl (by simp; exact Gives.mk) (by simp; exact Gives.mk) (by simp; exact Gives.mk) (by simp; exact Gives.mk) (by simp; exact Gives.mk) (fun _ => h1) (by simp) (by simp) ?_ | refine run_stepC hc rfl rfl (by simp; exact Gives.mk) (by simp; exact Gives.mk) (by simp; exact Gives.mk) (by simp; exact Gives.mk) (by simp; exact Gives.mk) (fun _ => h2) (by simp) (by simp) ?_); refine anyW_all [11] (by kernel_rfl) rfl ?_; (focus ((first | refine run_stepC hc rfl rfl (by simp; exact Gives.mk) (by simp; exact Gives.mk) (by simp; exact Gives.mk) (by simp; exact Gives.mk) (by simp; exact Gives.mk) (fun _ => h1) (by simp) (by simp) ?_ | refine run_stepC hc rfl rfl (by simp; exact Gives.mk) (by simp; exact Gives.mk) (by simp; exact Gives.mk) (by simp; exact Gives.mk) (by simp; exact Gives.mk) (fun _ => h2) (by simp) (by simp) ?_); refine run_anyG 12 hc rfl (by kernel_rfl) (by simp; exact Gives.mk) (by simp; exact Gives.mk) (fun _ => (by first | exact True.intro | omega | (simp; done) | (simp; omega) | (simp at *; omega))) (by simp) (by simp) (by simp; exact Gives.mk) ?_; refine run_anyP 13 hc rfl (by kernel_rfl) rfl (by simp; exact Gives.mk) (by first | exact True.intro | omega | (simp; done) | (simp; omega) | (simp at *; omega)) (by simp) (by simp) (by simp; exact Gives.mk) ?_; refine anyW_done (by kernel_rfl) ?_; exact run_back [1, 2, 5, 6, 7, 9, 10, 11, 29] [2, 7] (by simp; exact Gives.mk) (by simp; exact Gives.mk) (by simp))))))); (focus ((first | refine run_stepC hc rfl rfl (by simp; exact Gives.mk) (by simp; exact Gives.mk) (by simp; exact Gives.mk) (by simp; exact Gives.mk) (by simp; exact Gives.mk) (fun _ => h1) (by simp) (by simp) ?_ | refine run_stepC hc rfl rfl (by simp; exact Gives.mk) (by simp; exact Gives.mk) (by simp; exact Gives.mk) (by simp; exact Gives.mk) (by simp; exact Gives.mk) (fun _ => h2) (by simp) (by simp) ?_); refine anyW_all [5] (by kernel_rfl) rfl ?_; (focus (refine run_stepW hc rfl (by simp; exact Ends.go) (by first | exact True.intro | omega | (simp; done) | (simp; omega) | (simp at *; omega)) ?_; refine anyW_all [11] (by kernel_rfl) rfl ?_; (focus ((first | refine run_stepC hc rfl rfl (by simp; exact Gives.mk) (by simp; exact Gives.mk) (by simp; exact Gives.mk) (by simp; exact Gives.mk) (by simp; exact Gives.mk) (fun _ => h1) (by simp) (by simp) ?_ | refine run_stepC hc rfl rfl (by simp; exact Gives.mk) (by simp; exact Gives.mk) (by simp; exact Gives.mk) (by simp; exact Gives.mk) (by simp; exact Gives.mk) (fun _ => h2) (by simp) (by simp) ?_); refine run_anyG 12 hc rfl (by kernel_rfl) (by simp; exact Gives.mk) (by simp; exact Gives.mk) (fun _ => (by first | exact True.intro | omega | (simp; done) | (simp; omega) | (simp at *; omega))) (by simp) (by simp) (by simp; exact Gives.mk) ?_; refine run_anyP 13 hc rfl (by kernel_rfl) rfl (by simp; exact Gives.mk) (by first | exact True.intro | omega | (simp; done) | (simp; omega) | (simp at *; omega)) (by simp) (by simp) (by simp; exact Gives.mk) ?_; refine anyW_done (by kernel_rfl) ?_; exact run_back [1, 2, 5, 6, 7, 9, 10, 11, 29] [2, 7] (by simp; exact Gives.mk) (by simp; exact Gives.mk) (by simp))))))))))); (focus (refine run_stepW hc rfl (by simp; exact Ends.go) (by first | exact True.intro | omega | (simp; done) | (simp; omega) | (simp at *; omega)) ?_; refine anyW_all [5, 6] (by kernel_rfl) rfl ?_; refine ⟨?_, ?_⟩; (focus (refine run_stepW hc rfl (by simp; exact Ends.go) (by first | exact True.intro | omega | (simp; done) | (simp; omega) | (simp at *; omega)) ?_; refine anyW_all [6] (by kernel_rfl) rfl ?_; (focus (refine run_stepW hc rfl (by simp; exact Ends.go) (by first | exact True.intro | omega | (simp; done) | (simp; omega) | (simp at *; omega)) ?_; refine anyW_all [9] (by kernel_rfl) rfl ?_; (focus ((first | refine run_stepC hc rfl rfl (by simp; exact Gives.mk) (by simp; exact Gives.mk) (by simp; exact Gives.mk) (by simp; exact Gives.mk) (by simp; exact Gives.mk) (fun _ => h1) (by simp) (by simp) ?_ | refine run_stepC hc rfl rfl (by simp; exact Gives.mk) (by simp; exact Gives.mk) (by simp; exact Gives.mk) (by simp; exact Gives.mk) (by simp; exact Gives.mk) (fun _ => h2) (by simp) (by simp) ?_); refine anyW_all [11] (by kernel_rfl) rfl ?_; (focus ((first | refine run_stepC hc rfl rfl (by simp; exact Gives.mk) (by simp; exact Gives.mk) (by simp; exact Gives.mk) (by simp; exact Gives.mk) (by simp; exact Gives.mk) (fun _ => h1) (by simp) (by simp) ?_ | refine run_stepC hc rfl rfl (by simp; exact Gives.mk) (by simp; exact Gives.mk) (by simp; exact Gives.mk) (by simp; exact Gives.mk) (by simp; exact Gives.mk) (fun _ => h2) (by simp) (by simp) ?_); refine run_anyG 12 hc rfl (by kernel_rfl) (by simp; exact Gives.mk) (by simp; exact Gives.mk) (fun _ => (by first | exact True.intro | omega | (simp; done) | (simp; omega) | (simp at *; omega))) (by simp) (by simp) (by simp; exact Gives.mk) ?_; refine run_anyP 13 hc rfl (by kernel_rfl) rfl (by simp; exact Gives.mk) (by first | exact True.intro | omega | (simp; done) | (simp; omega) | (simp at *; omega)) (by simp) (by simp) (by simp; exact Gives.mk) ?_; refine anyW_done (by kernel_rfl) ?_; exact run_back [1, 2, 5, 6, 7, 9, 10, 11, 29] [2, 7] (by simp; exact Gives.mk) (by simp; exact Gives.mk) (by simp))))))))); (focus (refine run_stepW hc rfl (by simp; exact Ends.go) (by first | exact True.intro | omega | (simp; done) | (simp; omega) | (simp at *; omega)) ?_; refine anyW_all [5, 9] (by kernel_rfl) rfl ?_; refine ⟨?_, ?_⟩; (focus (refine run_stepW hc rfl (by simp; exact Ends.go) (by first | exact True.intro | omega | (simp; done) | (simp; omega) | (simp at *; omega)) ?_; refine anyW_all [9] (by kernel_rfl) rfl ?_; (focus ((first | refine run_stepC hc rfl rfl (by simp; exact Gives.mk) (by simp; exact Gives.mk) (by simp; exact Gives.mk) (by simp; exact Gives.mk) (by simp; exact Gives.mk) (fun _ => h1) (by simp) (by simp) ?_ | refine run_stepC hc rfl rfl (by simp; exact Gives.mk) (by simp; exact Gives.mk) (by simp; exact Gives.mk) (by simp; exact Gives.mk) (by simp; exact Gives.mk) (fun _ => h2) (by simp) (by simp) ?_); refine anyW_all [11] (by kernel_rfl) rfl ?_; (focus ((first | refine run_stepC hc rfl rfl (by simp; exact Gives.mk) (by simp; exact Gives.mk) (by simp; exact Gives.mk) (by simp; exact Gives.mk) (by simp; exact Gives.mk) (fun _ => h1) (by simp) (by simp) ?_ | refine run_stepC hc rfl rfl (by simp; exact Gives.mk) (by simp; exact Gives.mk) (by simp; exact Gives.mk) (by simp; exact Gives.mk) (by simp; exact Gives.mk) (fun _ => h2) (by simp) (by simp) ?_); refine run_anyG 12 hc rfl (by kernel_rfl) (by simp; exact Gives.mk) (by simp; exact Gives.mk) (fun _ => (by first | exact True.intro | omega | (simp; done) | (simp; omega) | (simp at *; omega))) (by simp) (by simp) (by simp; exact Gives.mk) ?_; refine run_anyP 13 hc rfl (by kernel_rfl) rfl (by simp; exact Gives.mk) (by first | exact True.intro | omega | (simp; done) | (simp; omega) | (simp at *; omega)) (by simp) (by simp) (by simp; exact Gives.mk) ?_; refine anyW_done (by kernel_rfl) ?_; exact run_back [1, 2, 5, 6, 7, 9, 10, 11, 29] [2, 7] (by simp; exact Gives.mk) (by simp; exact Gives.mk) (by simp))))))); (focus ((first | refine run_stepC hc rfl rfl (by simp; exact Gives.mk) (by simp; exact Gives.mk) (by simp; exact Gives.mk) (by simp; exact Gives.mk) (by simp; exact Gives.mk) (fun _ => h1) (by simp) (by simp) ?_ | refine run_stepC hc rfl rfl (by simp; exact Gives.mk) (by simp; exact Gives.mk) (by simp; exact Gives.mk) (by simp; exact Gives.mk) (by simp; exact Gives.mk) (fun _ => h2) (by simp) (by simp) ?_); refine anyW_all [5] (by kernel_rfl) rfl ?_; (focus (refine run_stepW hc rfl (by simp; exact Ends.go) (by first | exact True.intro | omega | (simp; done) | (simp; omega) | (simp at *; omega)) ?_; refine anyW_all [11] (by kernel_rfl) rfl ?_; (focus ((first | refine run_stepC hc rfl rfl (by simp; exact Gives.mk) (by simp; exact Gives.mk) (by simp; exact Gives.mk) (by simp; exact Gives.mk) (by simp; exact Gives.mk) (fun _ => h1) (by simp) (by simp) ?_ | refine run_stepC hc rfl rfl (by simp; exact Gives.mk) (by simp; exact Gives.mk) (by simp; exact Gives.mk) (by simp; exact Gives.mk) (by simp; exact Gives.mk) (fun _ => h2) (by simp) (by simp) ?_); refine run_anyG 12 hc rfl (by kernel_rfl) (by simp; exact Gives.mk) (by simp; exact Gives.mk) (fun _ => (by first | exact True.intro | omega | (simp; done) | (simp; omega) | (simp at *; omega))) (by simp) (by simp) (by simp; exact Gives.mk) ?_; refine run_anyP 13 hc rfl (by kernel_rfl) rfl (by simp; exact Gives.mk) (by first | exact True.intro | omega | (simp; done) | (simp; omega) | (simp at *; omega)) (by simp) (by simp) (by simp; exact Gives.mk) ?_; refine anyW_done (by kernel_rfl) ?_; exact run_back [1, 2, 5, 6, 7, 9, 10, 11, 29] [2, 7] (by simp; exact Gives.mk) (by simp; exact Gives.mk) (by simp))))))))))))))))
  clear h1 h2
  repeat' (first | refine Ya ?_ | refine Yb ?_ | refine Yc ?_ | refine Yd ?_ | refine Ye ?_ | refine Yf ?_ | refine Yg ?_ | refine Yh ?_ | refine Yi ?_ | refine Yj ?_ | refine Yk ?_ | refine Yl ?_ | refine Ym ?_ | refine Yn ?_ | refine Yo ?_ | refine Yp (h := ?_) | refine Yq ?_ | refine Yr ?_ | refine Ys ?_ | refine Zr hc (hk := ?_) | refine Zd hc (hk := ?_) | (refine Zc (ht := fun hb => ?_) (hf := fun hb => ?_) <;> (try simp at hb)) | fail)
  all_goals try (exfalso; omega)
  · have hrf : rd = false := by
      rw [hr]
      rcases hb with h | h
      · rw [decide_eq_false (by omega)]; rfl
      · rw [h]; simp
    rw [if_neg (by rw [hrf]; simp)] at hA
    exact ⟨(j + 1, b), ⟨by simp only; omega, hb1, by simp only; omega, hA⟩, by simp only; omega, run_back [1, 2, 5, 9, 10, 11] [2] (by simp; exact Gives.mk) (by simp; exact Gives.mk) (by simp)⟩
  · rename_i g
    rw [if_pos ⟨by rw [hr]; simp [g.1, g.2], by
      rcases hb with (h | h) | h
      · exact .inl h
      · exact .inr (.inl h)
      · exact .inr (.inr h)⟩] at hA
    exact ⟨(j + 1, (j : Int)), ⟨by simp only; omega, by simp only; omega, by simp only; omega, hA⟩, by simp only; omega, run_back [1, 2, 5, 9, 10, 11] [2] (by simp; exact Gives.mk) (by simp; exact Gives.mk) (by simp)⟩
  · rw [if_neg (fun h => by
      rcases h.2 with h | h | h
      · omega
      · omega
      · have := hb.2 h.1
        omega)] at hA
    exact ⟨(j + 1, b), ⟨by simp only; omega, hb1, by simp only; omega, hA⟩, by simp only; omega, run_back [1, 2, 5, 9, 10, 11] [2] (by simp; exact Gives.mk) (by simp; exact Gives.mk) (by simp)⟩
end Go.Proofs.YtnainpghpjelcaaGreatDoor
/-
  CHAPTER 5's REFERENCE: Next, Wait, Spent; FrontierNextMatchesSpec's own walk. (WITH run_drawN.)
-/
set_option linter.unusedSimpArgs false
set_option linter.unusedVariables false
namespace Go.Proofs.YtnainpghpjelcaaGreatDoor
open Go.Lw Go.RowKit
set_option maxRecDepth 100000
set_option maxHeartbeats 2000000

theorem qAskAt_ok (f : Frt) (t : Int) (hf : FrOk f) : FnOk Tryz.prog 84 [frD f, int t] (int (atE f t)) := by
  refine fnOk Tryz.func84 rfl (by kernel_rfl) Tryz.ntmps84 _ rfl (by simp) fun C hc => ?_
  have h1 := qCheckFr_ok f hf
  have h2 := qFrWithin_ok t 0 253402300799
  unfold atE
  have e : decide (okM t) = decide (0 ≤ t ∧ t ≤ 253402300799) := rfl
  rw [e]
  clear e
  generalize frE f = e at h1 ⊢
  generalize decide (0 ≤ t ∧ t ≤ 253402300799) = w at h2 ⊢
  repeat' (first | (first | refine Ya ?_ | refine Yb ?_ | refine Yc ?_ | refine Yd ?_ | refine Ye ?_ | refine Yf ?_ | refine Yg ?_ | refine Yh ?_ | refine Yi ?_ | refine Yj ?_ | refine Yk ?_ | refine Yl ?_ | refine Ym ?_ | refine Yn ?_ | refine Yo ?_ | refine Yp (h := ?_) | refine Yq ?_ | refine Yr ?_ | refine Ys ?_ | refine Zr hc (hk := ?_) | refine Zd hc (hk := ?_) | (refine Zc (ht := fun hb => ?_) (hf := fun hb => ?_) <;> (try simp at hb)) | fail) | (first | refine Zw hc (hf := by first | exact h1 | exact h2) (hk := ?_) | refine Zq hc (hf := by first | exact h1 | exact h2) (hk := ?_) | refine Zo hc (hk := ?_) | refine Zu hc (hk := ?_) | refine Ze hc (hk := ?_) | refine Zn hc (hk := ?_) | fail))
  · rw [if_pos hb]
    (refine Zl hc (hr := ?_))
    simp
  · rename_i g
    rw [if_neg (fun h => h g), if_pos hb]
    (refine Zl hc (hr := ?_))
    simp
  · rename_i g
    rw [if_neg (fun h => h g), if_neg (by simp [hb])]
    (refine Zl hc (hr := ?_))
    simp
/-! The plain law: starts in order. -/
def ascI (l : List Int) : Prop := ∀ k, 0 < k → k < l.length → l[k - 1]?.getD 0 ≤ l[k]?.getD 0
theorem ascI_le {l : List Int} (h : ascI l) {i j : Nat} (hij : i ≤ j) (hj : j < l.length) : l[i]?.getD 0 ≤ l[j]?.getD 0 := by
  induction j with
  | zero => obtain rfl : i = 0 := by omega
            omega
  | succ j ih =>
    rcases Nat.lt_or_ge j i with h1 | h1
    · obtain rfl : i = j + 1 := by omega
      omega
    · have := ih h1 (by omega)
      have h2 := h (j + 1) (by omega) hj
      rw [Nat.add_sub_cancel] at h2
      omega
theorem sinceGo_mono (l : List Int) (m : Int) (j k : Nat) (hjk : j ≤ k) : sinceGo l m k ≤ sinceGo l m j := by
  rcases Nat.lt_or_ge j k with h | h
  · rw [sinceGo.eq_def l m j]
    split
    · have := sinceGo_mono l m (j + 1) k (by omega)
      omega
    · have := sinceGo_le l m k
      omega
  · obtain rfl : j = k := by omega
    omega
termination_by k - j
theorem sinceGo_full (l : List Int) (m : Int) (j : Nat) (h : ∀ i, j ≤ i → i < l.length → m < l[i]?.getD 0) : sinceGo l m j = l.length - j := by
  rw [sinceGo]
  split
  · rename_i hj
    rw [if_pos (h j (Nat.le_refl _) hj), sinceGo_full l m (j + 1) fun i hi hl => h i (by omega) hl]
    omega
  · omega
termination_by l.length - j
theorem sinceGo_skip (l : List Int) (m : Int) (j k : Nat) (hk : k ≤ l.length) (hjk : j ≤ k) (h : ∀ i, j ≤ i → i < k → ¬ m < l[i]?.getD 0) : sinceGo l m j = sinceGo l m k := by
  rcases Nat.lt_or_ge j k with h1 | h1
  · rw [sinceGo.eq_def l m j, if_pos (by omega), if_neg (h j (Nat.le_refl _) h1), sinceGo_skip l m (j + 1) k hk (by omega) fun i hi hl => h i (by omega) hl]
    omega
  · obtain rfl : j = k := by omega
    rfl
termination_by k - j
/-- So many starts are behind a moment just where one is. -/
theorem since_iff {l : List Int} (ha : ascI l) (m : Int) (b : Nat) (hb : 1 ≤ b) : b ≤ sinceGo l m 0 ↔ (b ≤ l.length ∧ m < l[l.length - b]?.getD 0) := by
  constructor
  · intro h
    have h1 := sinceGo_le l m 0
    refine ⟨by omega, Classical.byContradiction fun hn => ?_⟩
    have := sinceGo_skip l m 0 (l.length - b + 1) (by omega) (by omega) fun i _ hi hm => hn (Int.lt_of_lt_of_le hm (ascI_le ha (by omega) (by omega)))
    have h2 := sinceGo_le l m (l.length - b + 1)
    omega
  · rintro ⟨h1, h2⟩
    have h3 := sinceGo_full l m (l.length - b) fun i hi hl => Int.lt_of_lt_of_le h2 (ascI_le ha hi hl)
    have h4 := sinceGo_mono l m 0 (l.length - b) (Nat.zero_le _)
    omega
theorem good_asc {f : Frt} (hg : FrGood f) (j : Nat) (hj : j < f.hosts.length) : ascI (hstAt f.hosts j).2.2.2 := fun k h0 hk => (hg.starts j hj k hk).2 h0
theorem there_lt {K : Nat → Bs} {n : Nat} {s : Bs} (h : thereB K n s = true) : lbB K n s < n := by
  unfold thereB at h
  simp at h
  exact h.1
theorem rdy_same (f : Frt) (t : Int) (hg : FrGood f) (ht : okM t) : rdyQ f t = rdyP f t := by
  funext x
  unfold rdyQ rdyP opensP hostFor isOpenQ
  obtain ⟨b1, b2⟩ := hg.budget
  cases hth : thereB (nameAt f.hosts) f.hosts.length (hostK x.1)
  · rw [if_neg (by decide), if_pos rfl]
    have e : sinceGo [] (t - f.window) 0 = 0 := by rw [sinceGo, if_neg (by simp)]
    have e2 : decide ((0 : Int) ≤ t) = true := decide_eq_true ht.1
    have e3 : decide (((0 : Nat) : Int) < f.budget) = true := decide_eq_true (by omega)
    simp [e, e2]
    intro
    omega
  · rw [if_pos rfl, if_neg (by decide)]
    have hlt := there_lt hth
    have ha := good_asc hg _ hlt
    generalize hstAt f.hosts (lbB (nameAt f.hosts) f.hosts.length (hostK x.1)) = h at ha
    obtain ⟨nm, fr, bz, l⟩ := h
    simp only at ha ⊢
    cases bz
    · rw [if_neg (by decide)]
      have hsi := since_iff ha (t - f.window) f.budget.toNat (by omega)
      have hbn : ((f.budget.toNat : Nat) : Int) = f.budget := Int.toNat_of_nonneg (by omega)
      generalize f.budget.toNat = bn at hsi hbn ⊢
      rw [← hbn]
      simp only [Bool.not_false, Bool.true_and, Bool.and_true]
      rw [Bool.eq_iff_iff]
      simp only [Bool.and_eq_true, decide_eq_true_eq]
      by_cases hle : (bn : Int) ≤ (l.length : Int)
      · rw [if_pos hle]
        constructor
        · rintro ⟨h1, h2, h3⟩
          have : ¬ bn ≤ sinceGo l (t - f.window) 0 := by omega
          have h4 : ¬ (t - f.window < l[l.length - bn]?.getD 0) := fun e => this (hsi.2 ⟨by omega, e⟩)
          exact ⟨h1, by omega⟩
        · rintro ⟨h1, h2⟩
          have : ¬ bn ≤ sinceGo l (t - f.window) 0 := fun e => by
            have := (hsi.1 e).2
            omega
          exact ⟨h1, by omega, by omega⟩
      · rw [if_neg hle]
        constructor
        · rintro ⟨h1, h2, h3⟩
          exact ⟨h1, h2⟩
        · rintro ⟨h1, h2⟩
          have : ¬ bn ≤ sinceGo l (t - f.window) 0 := fun e => by
            have := (hsi.1 e).1
            omega
          exact ⟨h1, h2, by omega⟩
    · rw [if_pos rfl]
      simp
/-- When an item can be fetched, or -1. -/
def opensQ (f : Frt) (x : Wnt) (t : Int) : Int :=
  if (hostFor f x.1).2.2.1 = true then -1
  else if f.budget ≤ (sinceGo (hostFor f x.1).2.2.2 (max t (max x.2.2 (hostFor f x.1).2.1) - f.window) 0 : Int) then (hostFor f x.1).2.2.2[(hostFor f x.1).2.2.2.length - f.budget.toNat]?.getD 0 + f.window
  else max t (max x.2.2 (hostFor f x.1).2.1)
end Go.Proofs.YtnainpghpjelcaaGreatDoor
