/-
  FRONTIER: what a frontier is; its check (program). (WITH run_drawN.)
-/
import Derived.Test.YtnainpghpjelcaaGreatDoorKeyH
set_option linter.unusedSimpArgs false
set_option linter.unusedVariables false
namespace Go.Proofs.YtnainpghpjelcaaGreatDoor
open Go.Lw Go.RowKit
set_option maxRecDepth 100000
set_option maxHeartbeats 2000000

/-- What is wanted: its key, its rank, when it is due. -/
abbrev Wnt := Bs × Int × Int
abbrev wntCells (x : Wnt) : List D := [str x.1, int x.2.1, int x.2.2]
abbrev wntD (x : Wnt) : D := .agg [str x.1, int x.2.1, int x.2.2]
abbrev wnt0 : Wnt := ([], 0, 0)
abbrev wntAt (L : List Wnt) (j : Nat) : Wnt := L[j]?.getD wnt0
abbrev wntSl (L : List Wnt) : D := .sl L.length fun i => [str (wntAt L i).1, int (wntAt L i).2.1, int (wntAt L i).2.2]
abbrev intSl (l : List Int) : D := .sl l.length fun i => [int (l[i]?.getD 0)]
/-- A host: its name, from when it is free, whether it is busy, its starts. -/
abbrev Hst := Bs × Int × Bool × List Int
abbrev hstCells (x : Hst) : List D := [str x.1, int x.2.1, tru x.2.2.1, intSl x.2.2.2]
abbrev hstD (x : Hst) : D := .agg [str x.1, int x.2.1, tru x.2.2.1, intSl x.2.2.2]
abbrev hst0 : Hst := ([], 0, false, [])
abbrev hstAt (L : List Hst) (j : Nat) : Hst := L[j]?.getD hst0
abbrev hstSl (L : List Hst) : D := .sl L.length fun i => [str (hstAt L i).1, int (hstAt L i).2.1, tru (hstAt L i).2.2.1, intSl (hstAt L i).2.2.2]
structure Frt where
  items : List Wnt
  hosts : List Hst
  budget : Int
  window : Int
abbrev frD (f : Frt) : D := .agg [wntSl f.items, hstSl f.hosts, int f.budget, int f.window]
abbrev okM (n : Int) : Prop := 0 ≤ n ∧ n ≤ 253402300799
/-- Is a string the host of a key? -/
def isHo (s : Bs) : Bool := decide (hostC (s ++ [41, 47]) = (s, 0)) || decide (hostC (s ++ [41, 115, 47]) = (s, 0))
/-- A string isn't behind another one. -/
abbrev leB (a b : Bs) : Prop := Op.bytesLess a b = true ∨ a = b
def wntE (x : Wnt) : Nat := if (ofK x.1).2 ≠ 0 then (ofK x.1).2 else if decide (0 ≤ x.2.1 ∧ x.2.1 ≤ 9) = false ∨ decide (okM x.2.2) = false then 1 else 0
def startsGo (l : List Int) (j : Nat) : Nat := if j < l.length then (if decide (okM (l[j]?.getD 0)) = false then 1 else if 0 < j ∧ l[j]?.getD 0 < l[j - 1]?.getD 0 then 8 else startsGo l (j + 1)) else 0
termination_by l.length - j
def startsE (l : List Int) : Nat := if 200 < l.length then 2 else startsGo l 0
def itemsGo (L : List Wnt) (j : Nat) : Nat := if j < L.length then (if wntE (wntAt L j) ≠ 0 then wntE (wntAt L j) else if 0 < j ∧ leB (wntAt L j).1 (wntAt L (j - 1)).1 then 8 else itemsGo L (j + 1)) else 0
termination_by L.length - j
def hostE (L : List Hst) (j : Nat) : Nat := if isHo (hstAt L j).1 = false then 5 else if 0 < j ∧ leB (hstAt L j).1 (hstAt L (j - 1)).1 then 8 else if decide (0 ≤ (hstAt L j).2.1 ∧ (hstAt L j).2.1 ≤ 253502300799) = false then 1 else startsE (hstAt L j).2.2.2
def hostsGo (L : List Hst) (j : Nat) : Nat := if j < L.length then (if hostE L j ≠ 0 then hostE L j else hostsGo L (j + 1)) else 0
termination_by L.length - j
/-- The fault of a frontier. -/
def frE (f : Frt) : Nat := if decide (1 ≤ f.budget ∧ f.budget ≤ 200) = false ∨ decide (1 ≤ f.window ∧ f.window ≤ 100000000) = false then 1 else if 2000 < f.items.length then 2 else if itemsGo f.items 0 ≠ 0 then itemsGo f.items 0 else if 300 < f.hosts.length then 2 else hostsGo f.hosts 0
/-- What comes in: bounds of its parts. -/
structure FrOk (f : Frt) : Prop where
  items : f.items.length ≤ 9223372036854775807
  hosts : f.hosts.length ≤ 9223372036854775807
  keys : ∀ j, (wntAt f.items j).1.length ≤ 140737488351232
  names : ∀ j, (hstAt f.hosts j).1.length ≤ 140737488351232
  starts : ∀ j, (hstAt f.hosts j).2.2.2.length ≤ 9223372036854775807
theorem frWithin_ok (n lo hi : Int) : FnOk Tryz.prog 71 [int n, int lo, int hi] (tru (decide (lo ≤ n ∧ n ≤ hi))) := by
  refine fnOk Tryz.func71 rfl (by kernel_rfl) Tryz.ntmps71 _ rfl (by simp) fun C hc => ?_
  repeat' (first | (first | refine Ya ?_ | refine Yb ?_ | refine Yc ?_ | refine Yd ?_ | refine Ye ?_ | refine Yf ?_ | refine Yg ?_ | refine Yh ?_ | refine Yi ?_ | refine Yj ?_ | refine Yk ?_ | refine Yl ?_ | refine Ym ?_ | refine Yn ?_ | refine Yo ?_ | refine Yp (h := ?_) | refine Yq ?_ | refine Yr ?_ | refine Ys ?_ | refine Zr hc (hk := ?_) | refine Zd hc (hk := ?_) | (refine Zc (ht := fun hb => ?_) (hf := fun hb => ?_) <;> (try simp at hb)) | fail) | (first | refine Zo hc (hk := ?_) | refine Zu hc (hk := ?_) | refine Ze hc (hk := ?_) | refine Zn hc (hk := ?_) | fail))
  (refine Zl hc (hr := ?_))
  simp
theorem frMoment_ok (n : Int) : FnOk Tryz.prog 91 [int n] (tru (decide (okM n))) := by
  refine fnOk Tryz.func91 rfl (by kernel_rfl) Tryz.ntmps91 _ rfl (by simp) fun C hc => ?_
  have h := frWithin_ok n 0 253402300799
  repeat' (first | (first | refine Ya ?_ | refine Yb ?_ | refine Yc ?_ | refine Yd ?_ | refine Ye ?_ | refine Yf ?_ | refine Yg ?_ | refine Yh ?_ | refine Yi ?_ | refine Yj ?_ | refine Yk ?_ | refine Yl ?_ | refine Ym ?_ | refine Yn ?_ | refine Yo ?_ | refine Yp (h := ?_) | refine Yq ?_ | refine Yr ?_ | refine Ys ?_ | refine Zr hc (hk := ?_) | refine Zd hc (hk := ?_) | (refine Zc (ht := fun hb => ?_) (hf := fun hb => ?_) <;> (try simp at hb)) | fail) | (first | refine Zw hc (hf := by exact h) (hk := ?_) | refine Zq hc (hf := by exact h) (hk := ?_) | refine Zo hc (hk := ?_) | refine Zu hc (hk := ?_) | refine Ze hc (hk := ?_) | refine Zn hc (hk := ?_) | fail))
  (refine Zl hc (hr := ?_))
  simp
end Go.Proofs.YtnainpghpjelcaaGreatDoor
