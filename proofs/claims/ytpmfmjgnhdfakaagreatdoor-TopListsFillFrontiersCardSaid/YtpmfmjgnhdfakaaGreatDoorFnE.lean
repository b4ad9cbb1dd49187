/-
  CHAPTER 5's REFERENCE: the check of a frontier. (WITH run_drawN.)
-/
import Derived.Test.YtpmfmjgnhdfakaaGreatDoorFnA
import Derived.Test.YtpmfmjgnhdfakaaGreatDoorFnD
set_option linter.unusedSimpArgs false
set_option linter.unusedVariables false
namespace Go.Proofs.YtpmfmjgnhdfakaaGreatDoor
open Go.Lw Go.RowKit
set_option maxRecDepth 100000
set_option maxHeartbeats 2000000

end Go.Proofs.YtpmfmjgnhdfakaaGreatDoor
/-
  CHAPTER 5's REFERENCE: hosts of keys, since, isOpen, next, Next, opens, Wait, Spent. (WITH run_drawN.)
-/
set_option linter.unusedSimpArgs false
set_option linter.unusedVariables false
namespace Go.Proofs.YtpmfmjgnhdfakaaGreatDoor
open Go.Lw Go.RowKit
set_option maxRecDepth 100000
set_option maxHeartbeats 2000000

/-- The number of a host, or -1. -/
def hIdx (H : List Hst) (s : Bs) : Int := if thereB (nameAt H) H.length s = true then (lbB (nameAt H) H.length s : Int) else -1
theorem qName_ok (k : Bs) (h : (ofK k).2 = 0) : FnOk Tryz.prog 41 [str k] (str (hostK k)) := by
  refine fnOk Tryz.func41 rfl (by kernel_rfl) Tryz.ntmps41 _ rfl (by simp) fun C hc => ?_
  have kl : k.length ≤ 2000 := (ofK_cases _).elim (fun h' => absurd h h'.1) (·.2.1)
  have h1 := qHostF_ok k (by omega)
  have e : hostC k = (hostK k, 0) := by unfold hostC; rw [if_pos h]
  rw [e] at h1
  generalize hostK k = s at h1 ⊢
  repeat' (first | (first | refine Ya ?_ | refine Yb ?_ | refine Yc ?_ | refine Yd ?_ | refine Ye ?_ | refine Yf ?_ | refine Yg ?_ | refine Yh ?_ | refine Yi ?_ | refine Yj ?_ | refine Yk ?_ | refine Yl ?_ | refine Ym ?_ | refine Yn ?_ | refine Yo ?_ | refine Yp (h := ?_) | refine Yq ?_ | refine Yr ?_ | refine Ys ?_ | refine Zr hc (hk := ?_) | refine Zd hc (hk := ?_) | (refine Zc (ht := fun hb => ?_) (hf := fun hb => ?_) <;> (try simp at hb)) | fail) | (first | refine Zw hc (hf := by exact h1) (hk := ?_) | refine Zq hc (hf := by exact h1) (hk := ?_) | refine Zo hc (hk := ?_) | refine Zu hc (hk := ?_) | refine Ze hc (hk := ?_) | refine Zn hc (hk := ?_) | fail))
  (refine Zl hc (hr := ?_))
  simp
/-- The host of a key. -/
def hostFor (f : Frt) (k : Bs) : Hst := if thereB (nameAt f.hosts) f.hosts.length (hostK k) = true then hstAt f.hosts (lbB (nameAt f.hosts) f.hosts.length (hostK k)) else (hostK k, 0, false, [])
def sinceGo (l : List Int) (m : Int) (j : Nat) : Nat := if j < l.length then (if m < l[j]?.getD 0 then 1 else 0) + sinceGo l m (j + 1) else 0
termination_by l.length - j
/-- Is a host open? -/
def isOpenQ (f : Frt) (x : Hst) (t : Int) : Bool := !x.2.2.1 && decide (x.2.1 ≤ t) && decide ((sinceGo x.2.2.2 (t - f.window) 0 : Int) < f.budget)
/-- May an item be fetched at a moment? -/
def rdyQ (f : Frt) (t : Int) (x : Wnt) : Bool := decide (x.2.2 ≤ t) && isOpenQ f (hostFor f x.1) t
end Go.Proofs.YtpmfmjgnhdfakaaGreatDoor
