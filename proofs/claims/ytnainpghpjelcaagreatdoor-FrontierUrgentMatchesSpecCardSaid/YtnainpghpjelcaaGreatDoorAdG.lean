/-
  ADDRESS: the scheme. (WITH run_drawN.)
-/
import Derived.Test.YtnainpghpjelcaaGreatDoorAdB
import Derived.Test.YtnainpghpjelcaaGreatDoorAdK
import Derived.Test.YtnainpghpjelcaaGreatDoorLwFlt
set_option linter.unusedSimpArgs false
set_option linter.unusedVariables false
namespace Go.Proofs.YtnainpghpjelcaaGreatDoor
open Go.Lw Go.RowKit
set_option maxRecDepth 100000
set_option maxHeartbeats 1000000

def pmAt (w t : Bs) (n : Nat) : Nat := n + pmatch (w.drop n) (t.drop n)
def schD (t : Bs) : D := match schemeP t with
  | .ok (s, n) => .tup [str s, int n, tru true]
  | .error n => .tup [str [], int n, tru false]
def mxP (t : Bs) : Nat → Nat
  | 0 => 0
  | 1 => pmatch httpW t
  | _ => max (pmatch httpW t) (pmatch httpsW t)
end Go.Proofs.YtnainpghpjelcaaGreatDoor
/-
  ADDRESS: the reader. (WITH run_drawN.)
-/
set_option linter.unusedSimpArgs false
set_option linter.unusedVariables false
namespace Go.Proofs.YtnainpghpjelcaaGreatDoor
open Go.Lw Go.RowKit
set_option maxRecDepth 100000
set_option maxHeartbeats 1000000

abbrev rdrL (t : Bs) (i : Int) (a : Adr) : List V := [.d (str t), .d (int i), .d (str a.scheme), .d (str a.host), .d (str a.port), .d (str a.path), .d (str a.query), .d (tru a.hasQ), .d (str a.frag), .d (tru a.hasF)]
end Go.Proofs.YtnainpghpjelcaaGreatDoor
/-
  ADDRESS: the reader's host and port. (WITH run_drawN.)
-/
set_option linter.unusedSimpArgs false
set_option linter.unusedVariables false
namespace Go.Proofs.YtnainpghpjelcaaGreatDoor
open Go.Lw Go.RowKit
set_option maxRecDepth 100000
set_option maxHeartbeats 1000000

end Go.Proofs.YtnainpghpjelcaaGreatDoor
/-
  ADDRESS: Read. (WITH run_drawN.)
-/
set_option linter.unusedSimpArgs false
set_option linter.unusedVariables false
namespace Go.Proofs.YtnainpghpjelcaaGreatDoor
open Go.Lw Go.RowKit
set_option maxRecDepth 100000
set_option maxHeartbeats 1000000

abbrev adrL (a : Adr) : List D := [str a.scheme, str a.host, str a.port, str a.path, str a.query, tru a.hasQ, str a.frag, tru a.hasF]
abbrev adrD (a : Adr) : D := .agg (adrL a)
@[simp] def readD (x : Adr × Nat × Nat) : D := .tup [adrD x.1, int x.2.1, int x.2.2]
end Go.Proofs.YtnainpghpjelcaaGreatDoor
/-
  ADDRESS: write, CheckAddress, Text. (WITH run_drawN.)
-/
set_option linter.unusedSimpArgs false
set_option linter.unusedVariables false
namespace Go.Proofs.YtnainpghpjelcaaGreatDoor
open Go.Lw Go.RowKit
set_option maxRecDepth 100000
set_option maxHeartbeats 1000000

/-- Strings as long as the form lets them be. -/
structure Adr.Fits (a : Adr) : Prop where
  scheme : a.scheme.length ≤ 140737488355327
  host : a.host.length ≤ 140737488355327
  port : a.port.length ≤ 140737488355327
  path : a.path.length ≤ 140737488355327
  query : a.query.length ≤ 140737488355327
  frag : a.frag.length ≤ 140737488355327
theorem behind_ok (a : Adr) (hf : a.Fits) : FnOk Tryz.prog 251 [adrD a] (str (behindA a)) := by
  refine fnOk Tryz.func251 rfl (by kernel_rfl) Tryz.ntmps251 _ rfl (by simp) fun C hc => ?_
  obtain ⟨h1, h2, h3, h4, h5, h6⟩ := hf
  repeat' (first | (first | refine Ya ?_ | refine Yb ?_ | refine Yc ?_ | refine Yd ?_ | refine Ye ?_ | refine Yf ?_ | refine Yg ?_ | refine Yh ?_ | refine Yi ?_ | refine Yj ?_ | refine Yk ?_ | refine Yl ?_ | refine Ym ?_ | refine Yn ?_ | refine Yo ?_ | refine Yp (h := ?_) | refine Yq ?_ | refine Yr ?_ | refine Ys ?_ | refine Zr hc (hk := ?_) | refine Zd hc (hk := ?_) | (refine Zc (ht := fun hb => ?_) (hf := fun hb => ?_) <;> (try simp at hb)) | fail) | (first | refine Zo hc (hk := ?_) | refine Zu hc (hk := ?_) | refine Ze hc (hk := ?_) | refine Zn hc (hk := ?_) | fail))
  all_goals rename_i hq
  all_goals (refine Zl hc (hr := ?_))
  all_goals simp [behindA, qPart, fPart, hb, hq]
theorem behind_len (a : Adr) (hf : a.Fits) : (behindA a).length ≤ 422212465065984 + 2 := by
  obtain ⟨h1, h2, h3, h4, h5, h6⟩ := hf
  unfold behindA qPart fPart
  split <;> split <;> simp <;> omega
theorem write_ok (a : Adr) (hf : a.Fits) : FnOk Tryz.prog 213 [adrD a] (str (writeA a)) := by
  refine fnOk Tryz.func213 rfl (by kernel_rfl) Tryz.ntmps213 _ rfl (by simp) fun C hc => ?_
  have hB := behind_ok a hf
  have hl := behind_len a hf
  obtain ⟨h1, h2, h3, h4, h5, h6⟩ := hf
  repeat' (first | (first | refine Ya ?_ | refine Yb ?_ | refine Yc ?_ | refine Yd ?_ | refine Ye ?_ | refine Yf ?_ | refine Yg ?_ | refine Yh ?_ | refine Yi ?_ | refine Yj ?_ | refine Yk ?_ | refine Yl ?_ | refine Ym ?_ | refine Yn ?_ | refine Yo ?_ | refine Yp (h := ?_) | refine Yq ?_ | refine Yr ?_ | refine Ys ?_ | refine Zr hc (hk := ?_) | refine Zd hc (hk := ?_) | (refine Zc (ht := fun hb => ?_) (hf := fun hb => ?_) <;> (try simp at hb)) | fail) | (first | refine Zw hc (hf := by exact hB) (hk := ?_) | refine Zq hc (hf := by exact hB) (hk := ?_) | refine Zo hc (hk := ?_) | refine Zu hc (hk := ?_) | refine Ze hc (hk := ?_) | refine Zn hc (hk := ?_) | fail))
  · (refine Zl hc (hr := ?_))
    simp [writeA, pPart, hb]
  · (refine Zl hc (hr := ?_))
    simp [writeA, pPart, hb]
/-! The check. -/
theorem chk_S {a : Adr} (h : chkS a) : chkC a = 10 := by unfold chkC; rw [if_pos h]
theorem chk_R {a : Adr} (h0 : ¬ chkS a) (h : chkR a) : chkC a = 10 := by unfold chkC; rw [if_neg h0, if_pos h]
theorem chk_F {a : Adr} (h0 : ¬ chkS a) (h1 : ¬ chkR a) (h : chkF a) : chkC a = 3 := by unfold chkC; rw [if_neg h0, if_neg h1, if_pos h]
theorem chk_L {a : Adr} (h0 : ¬ chkS a) (h1 : ¬ chkR a) (h2 : ¬ chkF a) : chkC a = if 2000 < (writeA a).length then 2 else 0 := by unfold chkC; rw [if_neg h0, if_neg h1, if_neg h2]
theorem chk_nR {a : Adr} (k1 : (¬ a.path = [] → ((a.path[0]?.getD 0).toNat : Int) = 47) ∧ isRow [63] a.path) (k2 : isRow [] a.query) (k3 : isRow [] a.frag) : ¬ chkR a := by
  rintro (h | h | h | h)
  · have := k1.1 h.1; have := h.2; omega
  · exact h k1.2
  · exact h k2
  · exact h k3
theorem chk_nF {a : Adr} (k1 : ¬ a.query = [] → a.hasQ = true) (k2 : ¬ a.frag = [] → a.hasF = true) : ¬ chkF a := by
  rintro (h | h)
  · have := k1 h.1; rw [h.2] at this; cases this
  · have := k2 h.1; rw [h.2] at this; cases this
theorem check_ok (a : Adr) (hf : a.Fits) : FnOk Tryz.prog 172 [adrD a] (int (chkC a)) := by
  refine fnOk Tryz.func172 rfl (by kernel_rfl) Tryz.ntmps172 _ rfl (by simp) fun C hc => ?_
  have hW := write_ok a hf
  obtain ⟨h1, h2, h3, h4, h5, h6⟩ := hf
  have hSm := small_ok a.scheme (by omega)
  have hHo := isHost_ok a.host (by omega)
  have hPo := portOf_ok a.port (by omega)
  have hR1 := isRow_ok a.path [63] (by omega)
  have hR2 := isRow_ok a.query [] (by omega)
  have hR3 := isRow_ok a.frag [] (by omega)
  repeat' (first | (first | refine Ya ?_ | refine Yb ?_ | refine Yc ?_ | refine Yd ?_ | refine Ye ?_ | refine Yf ?_ | refine Yg ?_ | refine Yh ?_ | refine Yi ?_ | refine Yj ?_ | refine Yk ?_ | refine Yl ?_ | refine Ym ?_ | refine Yn ?_ | refine Yo ?_ | refine Yp (h := ?_) | refine Yq ?_ | refine Yr ?_ | refine Ys ?_ | refine Zr hc (hk := ?_) | refine Zd hc (hk := ?_) | (refine Zc (ht := fun hb => ?_) (hf := fun hb => ?_) <;> (try simp at hb)) | fail) | (first | refine Zw hc (hf := by first | exact hSm | exact hHo | exact hPo) (hk := ?_) | refine Zq hc (hf := by first | exact hSm | exact hHo | exact hPo) (hk := ?_) | refine Zo hc (hk := ?_) | refine Zu hc (hk := ?_) | refine Ze hc (hk := ?_) | refine Zn hc (hk := ?_) | fail))
  all_goals try (exfalso; simp_all; done)
  all_goals skip
  · have e : chkC a = 10 := by unfold chkC; rw [if_pos (.inl (fun h => by rcases h with h | h; exact hb.1 h; exact hb.2 h))]
    rw [e]
    (refine Zl hc (hr := ?_))
    simp
  · have e : chkC a = 10 := by unfold chkC; rw [if_pos (.inr (.inl hb))]
    rw [e]
    (refine Zl hc (hr := ?_))
    simp
  · have e : chkC a = 10 := by unfold chkC; rw [if_pos (.inr (.inr hb))]
    rw [e]
    (refine Zl hc (hr := ?_))
    simp
  have hS0 : ¬ chkS a := by
    rename_i k1 k2
    rintro (h | h | h)
    · exact h (by
        by_cases e : small a.scheme = [104, 116, 116, 112]
        · exact .inl e
        · exact .inr (k1 e))
    · rw [h] at k2; cases k2
    · exact hb h.1 h.2
  have hpl : ¬ a.path = [] → 0 < a.path.length := fun h => by
    cases e : a.path with
    | nil => exact absurd e h
    | cons c r => simp
  repeat' (first | (first | refine Ya ?_ | refine Yb ?_ | refine Yc ?_ | refine Yd ?_ | refine Ye ?_ | refine Yf ?_ | refine Yg ?_ | refine Yh ?_ | refine Yi ?_ | refine Yj ?_ | refine Yk ?_ | refine Yl ?_ | refine Ym ?_ | refine Yn ?_ | refine Yo ?_ | refine Yp (h := ?_) | refine Yq ?_ | refine Yr ?_ | refine Ys ?_ | refine Zr hc (hk := ?_) | refine Zd hc (hk := ?_) | (refine Zc (ht := fun hb => ?_) (hf := fun hb => ?_) <;> (try simp at hb)) | fail) | (first | refine Zw hc (hf := by first | exact hR1 | exact hR2 | exact hR3 | exact hW) (hk := ?_) | refine Zq hc (hf := by first | exact hR1 | exact hR2 | exact hR3 | exact hW) (hk := ?_) | refine Zo hc (hk := ?_) | refine Zu hc (hk := ?_) | refine Ze hc (hk := ?_) | refine Zn hc (hk := ?_) | fail))
  all_goals try (exfalso; simp_all; done)
  · rw [chk_R hS0 (by
      rcases hb with h | h
      · exact .inl ⟨h.1, by omega⟩
      · exact .inr (.inl h))]
    (refine Zl hc (hr := ?_))
    simp
  · rw [chk_R hS0 (.inr (.inr (.inl hb)))]
    (refine Zl hc (hr := ?_))
    simp
  · rw [chk_R hS0 (.inr (.inr (.inr hb)))]
    (refine Zl hc (hr := ?_))
    simp
  · rename_i k1 k2 k3 k4
    rw [chk_F hS0 (chk_nR k1 k2 k3) (.inl hb)]
    (refine Zl hc (hr := ?_))
    simp
  · rename_i k1 k2 k3 k4
    rw [chk_F hS0 (chk_nR k1 k2 k3) (.inr hb)]
    (refine Zl hc (hr := ?_))
    simp
  · rename_i k1 k2 k3 k4 k5
    rw [chk_L hS0 (chk_nR k1 k2 k3) (chk_nF k4 k5), if_pos (by omega)]
    (refine Zl hc (hr := ?_))
    simp
  · rename_i k1 k2 k3 k4 k5
    rw [chk_L hS0 (chk_nR k1 k2 k3) (chk_nF k4 k5), if_neg (by omega)]
    (refine Zl hc (hr := ?_))
    simp
def textC (a : Adr) : Bs × Nat := if chkC a = 0 then (writeA a, 0) else ([], chkC a)
end Go.Proofs.YtnainpghpjelcaaGreatDoor
