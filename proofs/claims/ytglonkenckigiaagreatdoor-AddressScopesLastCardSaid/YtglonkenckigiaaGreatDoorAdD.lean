/-
  ADDRESS: the scheme. (WITH run_drawN.)
-/
import Derived.Test.YtglonkenckigiaaGreatDoorAdB
import Derived.Test.YtglonkenckigiaaGreatDoorAdK
import Derived.Test.YtglonkenckigiaaGreatDoorLwFlt
set_option linter.unusedSimpArgs false
set_option linter.unusedVariables false
namespace Go.Proofs.YtglonkenckigiaaGreatDoor
open Go.Lw Go.RowKit
set_option maxRecDepth 100000
set_option maxHeartbeats 1000000

def pmAt (w t : Bs) (n : Nat) : Nat := n + pmatch (w.drop n) (t.drop n)
theorem pmAt_zero (w t : Bs) : pmAt w t 0 = pmatch w t := by simp [pmAt]
theorem pmAt_step (w t : Bs) (n : Nat) (h1 : n < w.length) (h2 : n < t.length) : pmAt w t n = if low (t[n]?.getD 0) = w[n]?.getD 0 then pmAt w t (n + 1) else n := by
  unfold pmAt
  rw [drop_get w n h1, drop_get t n h2]
  simp only [pmatch]
  split
  · omega
  · rfl
theorem pmAt_end (w t : Bs) (n : Nat) (h : w.length ≤ n ∨ t.length ≤ n) : pmAt w t n = n := by
  unfold pmAt
  rcases h with h | h
  · rw [List.drop_of_length_le h]; simp [pmatch]
  · rw [List.drop_of_length_le h]; cases w.drop n <;> simp [pmatch]
theorem one_at (t : Bs) (n : Nat) (h : n < t.length) : (t.take (n + 1)).drop n = [t[n]?.getD 0] := by
  rw [List.take_add_one, List.drop_append_of_le_length (by simp; omega), List.drop_of_length_le (by simp; omega)]
  simp [h]
theorem pm_yes {w t : Bs} {n : Nat} (h1 : n < w.length) (h2 : n < t.length) (h3 : small ((t.take (n + 1)).drop n) = (w.take (n + 1)).drop n) : pmAt w t n = pmAt w t (n + 1) := by
  rw [one_at t n h2, one_at w n h1] at h3
  rw [pmAt_step w t n h1 h2, if_pos (by simpa [small] using h3)]
theorem pm_no {w t : Bs} {n : Nat} (h : n < w.length → n < t.length → ¬ small ((t.take (n + 1)).drop n) = (w.take (n + 1)).drop n) : pmAt w t n = n := by
  by_cases h1 : n < w.length
  · by_cases h2 : n < t.length
    · have h3 := h h1 h2
      rw [one_at t n h2, one_at w n h1] at h3
      rw [pmAt_step w t n h1 h2, if_neg (by simpa [small] using h3)]
    · exact pmAt_end w t n (.inr (by omega))
  · exact pmAt_end w t n (.inl (by omega))
def schD (t : Bs) : D := match schemeP t with
  | .ok (s, n) => .tup [str s, int n, tru true]
  | .error n => .tup [str [], int n, tru false]
def mxP (t : Bs) : Nat → Nat
  | 0 => 0
  | 1 => pmatch httpW t
  | _ => max (pmatch httpW t) (pmatch httpsW t)
theorem scheme_ok (t : Bs) (hm : t.length ≤ 4611686018427387904) : FnOk Tryz.prog 83 [str t] (schD t) := by
  refine fnOk Tryz.func83 rfl (by kernel_rfl) Tryz.ntmps83 _ rfl (by simp) fun C hc => ?_
  have hp1 := pmatch_le httpW t
  have hp2 := pmatch_le httpsW t
  repeat' (first | (first | refine Ya ?_ | refine Yb ?_ | refine Yc ?_ | refine Yd ?_ | refine Ye ?_ | refine Yf ?_ | refine Yg ?_ | refine Yh ?_ | refine Yi ?_ | refine Yj ?_ | refine Yk ?_ | refine Yl ?_ | refine Ym ?_ | refine Yn ?_ | refine Yo ?_ | refine Yp (h := ?_) | refine Yq ?_ | refine Yr ?_ | refine Ys ?_ | refine Zr hc (hk := ?_) | refine Zd hc (hk := ?_) | (refine Zc (ht := fun hb => ?_) (hf := fun hb => ?_) <;> (try simp at hb)) | fail) | (first | refine Zo hc (hk := ?_) | refine Zu hc (hk := ?_) | refine Ze hc (hk := ?_) | refine Zn hc (hk := ?_) | fail))
  refine ewp_loop (fun j : Nat => ⟨[(0, .d (str t)), (3, .d (int (mxP t j))), (8, .os 8 2), (9, .d (int 2)), (10, .d (int j))], [(8, .own 9 1 (true, [str []]) [[str httpW], [str httpsW]])]⟩) (fun j => j ≤ 2 ∧ (1 ≤ j → pmatch httpW t ≠ 7) ∧ (2 ≤ j → pmatch httpsW t ≠ 8)) (fun j => 2 - j) 0 (by simp) (run_keep [0, 3, 8, 9, 10] [8] (by simp; exact Gives.mk) (by simp; exact Gives.mk)) ?_
  rintro j ⟨h1, h2, h3⟩
  obtain rfl | rfl | rfl : j = 0 ∨ j = 1 ∨ j = 2 := by omega
  · repeat' (first | (first | refine Ya ?_ | refine Yb ?_ | refine Yc ?_ | refine Yd ?_ | refine Ye ?_ | refine Yf ?_ | refine Yg ?_ | refine Yh ?_ | refine Yi ?_ | refine Yj ?_ | refine Yk ?_ | refine Yl ?_ | refine Ym ?_ | refine Yn ?_ | refine Yo ?_ | refine Yp (h := ?_) | refine Yq ?_ | refine Yr ?_ | refine Ys ?_ | refine Zr hc (hk := ?_) | refine Zd hc (hk := ?_) | (refine Zc (ht := fun hb => ?_) (hf := fun hb => ?_) <;> (try simp at hb)) | fail) | (first | refine Zo hc (hk := ?_) | refine Zu hc (hk := ?_) | refine Ze hc (hk := ?_) | refine Zn hc (hk := ?_) | fail))
    refine ewp_loop (fun n : Nat => ⟨[(0, .d (str t)), (3, .d (int (mxP t 0))), (6, .d (str httpW)), (7, .d (int n)), (8, .os 8 2), (9, .d (int 2)), (10, .d (int 0))], [(8, .own 9 1 (true, [str []]) [[str httpW], [str httpsW]])]⟩) (fun n => n ≤ 7 ∧ n ≤ t.length ∧ pmatch httpW t = pmAt httpW t n) (fun n => 7 - n) 0 (by simp [pmAt]) (run_keep [0, 3, 6, 7, 8, 9, 10] [8] (by simp; exact Gives.mk) (by simp; exact Gives.mk)) ?_
    rintro n ⟨k1, k2, k3⟩
    have hlw : httpW.length = 7 := rfl
    
    repeat' (first | (first | refine ewp_seq ?_ | refine run_region hc (by simp [hlw]; exact Ends.go) (by first | exact True.intro | omega | assumption | (simp; done) | (simp; omega) | (simp at *; omega)) ?_ | refine run_draw hc (by kernel_rfl) (by kernel_rfl) (by simp [hlw]; exact Ends.go) (by first | exact True.intro | omega | assumption | (simp; done) | (simp; omega) | (simp at *; omega)) ?_ | refine ewp_scope ?_ | refine scopeQ_normal ?_ | refine scopeQ_ret ?_ | refine scopeQ_exit ?_ | refine ewp_skip ?_ | refine ewp_block ?_ | refine ewp_exit ?_ | refine ewp_label ?_ | refine thenQ_normal ?_ | refine thenQ_ret ?_ | refine thenQ_exit ?_ | refine blockQ_normal ?_ | refine blockQ_ret ?_ | refine blockQ_here ?_ | refine blockQ_there (by decide) ?_ | refine ewp_ret ?_ | refine opsW_nil ?_ | refine quietW_nil ?_ | (refine run_cond (by simp [hlw]; exact Gives.mk) (fun hb => ?_) (fun hb => ?_) <;> (try simp at hb)) | fail) | (first | refine run_callW hc (by simp [hlw]; exact Gives.mk) (by simp [hlw]; exact Gives.mk) (by simp [hlw]; exact Gives.mk) (by simp [hlw]; exact Gives.mk) (by simp [hlw]; exact Gives.mk) (fun _ => by first | exact small_ok _ (by simp [hlw]; omega)) (by simp) (by simp) ?_ | refine run_callQ hc (by simp [hlw]; exact Gives.mk) (by simp [hlw]; exact Gives.mk) (by simp [hlw]; exact Gives.mk) (by simp [hlw]; exact Gives.mk) (by simp [hlw]; exact Gives.mk) (fun _ => by first | exact small_ok _ (by simp [hlw]; omega)) (by simp) (by simp) ?_ | refine run_ops hc (by simp [hlw]; first | exact Ends.go | exact Ends.halt) (by decide) (by first | exact True.intro | omega | assumption | (simp; done) | (simp; omega) | (simp at *; omega)) ?_ | refine run_quiet hc (by simp [hlw]; first | exact Ends.go | exact Ends.halt) (by decide) (by first | exact True.intro | omega | assumption | (simp; done) | (simp; omega) | (simp at *; omega)) ?_ | refine run_regionW hc (by simp [hlw]; exact Ends.halt) (by first | exact True.intro | omega | assumption | (simp; done) | (simp; omega) | (simp at *; omega)) ?_ | refine run_drawN hc (by kernel_rfl) (by decide) (by kernel_rfl) (by simp [hlw]; exact Ends.halt) (by first | exact True.intro | omega | assumption | (simp; done) | (simp; omega) | (simp at *; omega)) ?_ | fail))
    · obtain ⟨⟨g1, g2⟩, g3⟩ := hb
      exact ⟨n + 1, ⟨by omega, by omega, by rw [k3]; exact pm_yes (by omega) g2 g3⟩, by omega, run_back [0, 3, 6, 7, 8, 9, 10] [8] (by simp [hlw]; exact Gives.mk) (by simp [hlw]; exact Gives.mk) (by simp)⟩
    · rename_i g1
      have hv : pmatch httpW t = n := by rw [k3]; exact pm_no (fun x y => g1 (by omega) y)
      have e : schD t = .tup [str (t.take (n - 3)), int n, tru true] := by
        have : n = 7 := by omega
        subst this
        unfold schD schemeP
        rw [if_pos hv]
      rw [e]
      (refine run_leave hc (by simp [hlw]; exact Gives.mk) ?_)
      simp
    · rename_i g1
      have hv : pmatch httpW t = n := by rw [k3]; exact pm_no (fun x y => g1 (by omega) y)
      refine ⟨1, ⟨by omega, fun _ => by omega, fun _ => by omega⟩, by omega, run_back [0, 3, 8, 9, 10] [8] (by simp [hlw]; exact Gives.mk) (by simp [hlw]; exact Gives.mk) ?_⟩
      simp [mxP, hv]
      try omega
    
  · repeat' (first | (first | refine Ya ?_ | refine Yb ?_ | refine Yc ?_ | refine Yd ?_ | refine Ye ?_ | refine Yf ?_ | refine Yg ?_ | refine Yh ?_ | refine Yi ?_ | refine Yj ?_ | refine Yk ?_ | refine Yl ?_ | refine Ym ?_ | refine Yn ?_ | refine Yo ?_ | refine Yp (h := ?_) | refine Yq ?_ | refine Yr ?_ | refine Ys ?_ | refine Zr hc (hk := ?_) | refine Zd hc (hk := ?_) | (refine Zc (ht := fun hb => ?_) (hf := fun hb => ?_) <;> (try simp at hb)) | fail) | (first | refine Zo hc (hk := ?_) | refine Zu hc (hk := ?_) | refine Ze hc (hk := ?_) | refine Zn hc (hk := ?_) | fail))
    refine ewp_loop (fun n : Nat => ⟨[(0, .d (str t)), (3, .d (int (mxP t 1))), (6, .d (str httpsW)), (7, .d (int n)), (8, .os 8 2), (9, .d (int 2)), (10, .d (int 1))], [(8, .own 9 1 (true, [str []]) [[str httpW], [str httpsW]])]⟩) (fun n => n ≤ 8 ∧ n ≤ t.length ∧ pmatch httpsW t = pmAt httpsW t n) (fun n => 8 - n) 0 (by simp [pmAt]) (run_keep [0, 3, 6, 7, 8, 9, 10] [8] (by simp; exact Gives.mk) (by simp; exact Gives.mk)) ?_
    rintro n ⟨k1, k2, k3⟩
    have hlw : httpsW.length = 8 := rfl
    
    repeat' (first | (first | refine ewp_seq ?_ | refine run_region hc (by simp [hlw]; exact Ends.go) (by first | exact True.intro | omega | assumption | (simp; done) | (simp; omega) | (simp at *; omega)) ?_ | refine run_draw hc (by kernel_rfl) (by kernel_rfl) (by simp [hlw]; exact Ends.go) (by first | exact True.intro | omega | assumption | (simp; done) | (simp; omega) | (simp at *; omega)) ?_ | refine ewp_scope ?_ | refine scopeQ_normal ?_ | refine scopeQ_ret ?_ | refine scopeQ_exit ?_ | refine ewp_skip ?_ | refine ewp_block ?_ | refine ewp_exit ?_ | refine ewp_label ?_ | refine thenQ_normal ?_ | refine thenQ_ret ?_ | refine thenQ_exit ?_ | refine blockQ_normal ?_ | refine blockQ_ret ?_ | refine blockQ_here ?_ | refine blockQ_there (by decide) ?_ | refine ewp_ret ?_ | refine opsW_nil ?_ | refine quietW_nil ?_ | (refine run_cond (by simp [hlw]; exact Gives.mk) (fun hb => ?_) (fun hb => ?_) <;> (try simp at hb)) | fail) | (first | refine run_callW hc (by simp [hlw]; exact Gives.mk) (by simp [hlw]; exact Gives.mk) (by simp [hlw]; exact Gives.mk) (by simp [hlw]; exact Gives.mk) (by simp [hlw]; exact Gives.mk) (fun _ => by first | exact small_ok _ (by simp [hlw]; omega)) (by simp) (by simp) ?_ | refine run_callQ hc (by simp [hlw]; exact Gives.mk) (by simp [hlw]; exact Gives.mk) (by simp [hlw]; exact Gives.mk) (by simp [hlw]; exact Gives.mk) (by simp [hlw]; exact Gives.mk) (fun _ => by first | exact small_ok _ (by simp [hlw]; omega)) (by simp) (by simp) ?_ | refine run_ops hc (by simp [hlw]; first | exact Ends.go | exact Ends.halt) (by decide) (by first | exact True.intro | omega | assumption | (simp; done) | (simp; omega) | (simp at *; omega)) ?_ | refine run_quiet hc (by simp [hlw]; first | exact Ends.go | exact Ends.halt) (by decide) (by first | exact True.intro | omega | assumption | (simp; done) | (simp; omega) | (simp at *; omega)) ?_ | refine run_regionW hc (by simp [hlw]; exact Ends.halt) (by first | exact True.intro | omega | assumption | (simp; done) | (simp; omega) | (simp at *; omega)) ?_ | refine run_drawN hc (by kernel_rfl) (by decide) (by kernel_rfl) (by simp [hlw]; exact Ends.halt) (by first | exact True.intro | omega | assumption | (simp; done) | (simp; omega) | (simp at *; omega)) ?_ | fail))
    · obtain ⟨⟨g1, g2⟩, g3⟩ := hb
      exact ⟨n + 1, ⟨by omega, by omega, by rw [k3]; exact pm_yes (by omega) g2 g3⟩, by omega, run_back [0, 3, 6, 7, 8, 9, 10] [8] (by simp [hlw]; exact Gives.mk) (by simp [hlw]; exact Gives.mk) (by simp)⟩
    · rename_i g1
      have hv : pmatch httpsW t = n := by rw [k3]; exact pm_no (fun x y => g1 (by omega) y)
      have e : schD t = .tup [str (t.take (n - 3)), int n, tru true] := by
        have : n = 8 := by omega
        subst this
        unfold schD schemeP
        rw [if_neg (h2 (by omega)), if_pos hv]
      rw [e]
      (refine run_leave hc (by simp [hlw]; exact Gives.mk) ?_)
      simp
    · rename_i g1
      have hv : pmatch httpsW t = n := by rw [k3]; exact pm_no (fun x y => g1 (by omega) y)
      refine ⟨2, ⟨by omega, fun _ => h2 (by omega), fun _ => by omega⟩, by omega, run_back [0, 3, 8, 9, 10] [8] (by simp [hlw]; exact Gives.mk) (by simp [hlw]; exact Gives.mk) ?_⟩
      simp [mxP, hv]
      try omega
    
  · repeat' (first | (first | refine Ya ?_ | refine Yb ?_ | refine Yc ?_ | refine Yd ?_ | refine Ye ?_ | refine Yf ?_ | refine Yg ?_ | refine Yh ?_ | refine Yi ?_ | refine Yj ?_ | refine Yk ?_ | refine Yl ?_ | refine Ym ?_ | refine Yn ?_ | refine Yo ?_ | refine Yp (h := ?_) | refine Yq ?_ | refine Yr ?_ | refine Ys ?_ | refine Zr hc (hk := ?_) | refine Zd hc (hk := ?_) | (refine Zc (ht := fun hb => ?_) (hf := fun hb => ?_) <;> (try simp at hb)) | fail) | (first | refine Zo hc (hk := ?_) | refine Zu hc (hk := ?_) | refine Ze hc (hk := ?_) | refine Zn hc (hk := ?_) | fail))
    · have e : schD t = .tup [str [], int (mxP t 2), tru false] := by
        unfold schD schemeP
        rw [if_neg (h2 (by omega)), if_neg (h3 (by omega))]
        rfl
      rw [e]
      (refine Zl hc (hr := ?_))
      simp
end Go.Proofs.YtglonkenckigiaaGreatDoor
/-
  ADDRESS: the reader. (WITH run_drawN.)
-/
set_option linter.unusedSimpArgs false
set_option linter.unusedVariables false
namespace Go.Proofs.YtglonkenckigiaaGreatDoor
open Go.Lw Go.RowKit
set_option maxRecDepth 100000
set_option maxHeartbeats 1000000

abbrev rdrL (t : Bs) (i : Int) (a : Adr) : List V := [.d (str t), .d (int i), .d (str a.scheme), .d (str a.host), .d (str a.port), .d (str a.path), .d (str a.query), .d (tru a.hasQ), .d (str a.frag), .d (tru a.hasF)]
abbrev rdr (t : Bs) (i : Int) (a : Adr) : List (Nat × O) := [(100000, .box 87 (rdrL t i a))]
theorem cut_eq (t : Bs) (i n : Nat) : (t.take (i + n)).drop i = (t.drop i).take n := by rw [List.drop_take]; simp
theorem row_ok (t w : Bs) (i : Nat) (a : Adr) (hi : i ≤ t.length) (hm : t.length ≤ 4611686018427387904) :
    FnMem Tryz.prog 123 [.bp 100000 0, .d (str w)] (rdr t i a) (.d (.tup [str ((t.drop i).take (rowE w (t.drop i)).1), tru (rowE w (t.drop i)).2])) (rdr t ((i + (rowE w (t.drop i)).1 : Nat) : Int) a) := by
  refine fnMem Tryz.func123 rfl (by kernel_rfl) Tryz.ntmps123 _ rfl (by simp) fun C hc => ?_
  have hle := rowE_le w (t.drop i)
  simp only [List.length_drop] at hle
  rw [← cut_eq]
  have hro := rowEnd_ok (t.drop i) w (by simp; omega)
  have eT : ((i : Int) + ((rowE w (t.drop i)).1 : Int)).toNat = i + (rowE w (t.drop i)).1 := by omega
  repeat' (first | (first | refine Ya ?_ | refine Yb ?_ | refine Yc ?_ | refine Yd ?_ | refine Ye ?_ | refine Yf ?_ | refine Yg ?_ | refine Yh ?_ | refine Yi ?_ | refine Yj ?_ | refine Yk ?_ | refine Yl ?_ | refine Ym ?_ | refine Yn ?_ | refine Yo ?_ | refine Yp (h := ?_) | refine Yq ?_ | refine Yr ?_ | refine Ys ?_ | refine Zr hc (hk := ?_) | refine Zd hc (hk := ?_) | (refine Zc (ht := fun hb => ?_) (hf := fun hb => ?_) <;> (try simp at hb)) | fail) | (first | refine Zw hc (hf := by exact hro) (hk := ?_) | refine Zq hc (hf := by exact hro) (hk := ?_) | refine Zo hc (hk := ?_) | refine Zu hc (hk := ?_) | refine Ze hc (hk := ?_) | refine Zn hc (hk := ?_) | fail))
  (refine run_leaveM [100000] hc (le_end rfl) (by simp; exact Gives.mk) (by simp; exact Gives.mk) (by first | (simp; done) | (simp; omega)) ?_)
  (first | (simp; done) | (simp; omega))
theorem rest_ok (t : Bs) (i : Nat) (a : Adr) (hi : i ≤ t.length) (hm : t.length ≤ 4611686018427387904) :
    FnMem Tryz.prog 85 [.bp 100000 0] (rdr t i a) (.d (tru (reR t i a).1)) (rdr t (((reR t i a).2.1 : Nat) : Int) (reR t i a).2.2) := by
  refine fnMem Tryz.func85 rfl (by kernel_rfl) Tryz.ntmps85 _ rfl (by simp) fun C hc => ?_
  have hl1 := rowE_le [63, 35] (t.drop i)
  have h1 := row_ok t [63, 35] i a hi hm
  rcases hx1 : rowE [63, 35] (t.drop i) with ⟨n1, b1⟩
  rw [hx1] at hl1 h1
  simp only [List.length_drop] at hl1 h1
  cases b1 with
  | false =>
    have e : reR t i a = (false, i + n1, { a with path := (t.drop i).take n1 }) := by unfold reR; rw [hx1]; rfl
    rw [e]
    repeat' (first | (first | refine Ya ?_ | refine Yb ?_ | refine Yc ?_ | refine Yd ?_ | refine Ye ?_ | refine Yf ?_ | refine Yg ?_ | refine Yh ?_ | refine Yi ?_ | refine Yj ?_ | refine Yk ?_ | refine Yl ?_ | refine Ym ?_ | refine Yn ?_ | refine Yo ?_ | refine Yp (h := ?_) | refine Yq ?_ | refine Yr ?_ | refine Ys ?_ | refine Zr hc (hk := ?_) | refine Zd hc (hk := ?_) | (refine Zc (ht := fun hb => ?_) (hf := fun hb => ?_) <;> (try simp at hb)) | fail) | (first | refine Zo hc (hk := ?_) | refine Zu hc (hk := ?_) | refine Ze hc (hk := ?_) | refine Zn hc (hk := ?_) | fail) | (first | refine run_callM ([(100000, 100000)]) (h1) hc (by simp; exact Gives.mk) (by simp; exact Gives.mk) (by simp; exact Gives.mk) (by simp; exact Gives.mk) (by simp; exact Gives.mk) rfl (by simp; exact Gives.mk) (by simp; exact Gives.mk) rfl (by simp) (by simp) (by simp; exact Gives.mk) (by simp; exact Gives.mk) ?_ | fail))
    all_goals try contradiction
    (refine run_leaveM [100000] hc (le_end rfl) (by simp; exact Gives.mk) (by simp; exact Gives.mk) (by first | (simp; done) | (simp; omega)) ?_)
    (first | (simp; done) | (simp; omega))
  | true =>
    have e : reR t i a = quR t (i + n1) { a with path := (t.drop i).take n1 } := by unfold reR; rw [hx1]; rfl
    rw [e]
    have eT1 : ((i : Int) + (n1 : Int)).toNat = i + n1 := by omega
    have eT2 : ((i : Int) + (n1 : Int) + 1).toNat = i + n1 + 1 := by omega
    have hq1 := hasPrefix_ok (t.drop (i + n1)) [63]
    by_cases p1 : [63] <+: t.drop (i + n1)
    · rw [List.isPrefixOf_iff_prefix.2 p1] at hq1
      have hlt := pre_lt p1
      have hl2 := rowE_le [35] (t.drop (i + n1 + 1))
      have h2 := row_ok t [35] (i + n1 + 1) { a with path := (t.drop i).take n1, hasQ := true } (by omega) hm
      rcases hx2 : rowE [35] (t.drop (i + n1 + 1)) with ⟨n2, b2⟩
      rw [hx2] at hl2 h2
      simp only [List.length_drop] at hl2 h2
      cases b2 with
      | false =>
        have e : quR t (i + n1) { a with path := (t.drop i).take n1 } = (false, i + n1 + 1 + n2, { a with path := (t.drop i).take n1, hasQ := true, query := (t.drop (i + n1 + 1)).take n2 }) := by unfold quR; rw [if_pos p1, hx2]; rfl
        rw [e]
        repeat' (first | (first | refine Ya ?_ | refine Yb ?_ | refine Yc ?_ | refine Yd ?_ | refine Ye ?_ | refine Yf ?_ | refine Yg ?_ | refine Yh ?_ | refine Yi ?_ | refine Yj ?_ | refine Yk ?_ | refine Yl ?_ | refine Ym ?_ | refine Yn ?_ | refine Yo ?_ | refine Yp (h := ?_) | refine Yq ?_ | refine Yr ?_ | refine Ys ?_ | refine Zr hc (hk := ?_) | refine Zd hc (hk := ?_) | (refine Zc (ht := fun hb => ?_) (hf := fun hb => ?_) <;> (try simp at hb)) | fail) | (first | refine Zw hc (hf := by exact hq1) (hk := ?_) | refine Zq hc (hf := by exact hq1) (hk := ?_) | refine Zo hc (hk := ?_) | refine Zu hc (hk := ?_) | refine Ze hc (hk := ?_) | refine Zn hc (hk := ?_) | fail) | (first | refine run_callM ([(100000, 100000)]) (h1) hc (by simp; exact Gives.mk) (by simp; exact Gives.mk) (by simp; exact Gives.mk) (by simp; exact Gives.mk) (by simp; exact Gives.mk) rfl (by simp; exact Gives.mk) (by simp; exact Gives.mk) rfl (by simp) (by simp) (by simp; exact Gives.mk) (by simp; exact Gives.mk) ?_ | fail) | (first | refine run_callM ([(100000, 100000)]) (h2) hc (by simp; exact Gives.mk) (by simp; exact Gives.mk) (by simp; exact Gives.mk) (by simp; exact Gives.mk) (by simp; exact Gives.mk) rfl (by simp; exact Gives.mk) (by simp; exact Gives.mk) rfl (by simp) (by simp) (by simp; exact Gives.mk) (by simp; exact Gives.mk) ?_ | fail))
        all_goals try contradiction
        (refine run_leaveM [100000] hc (le_end rfl) (by simp; exact Gives.mk) (by simp; exact Gives.mk) (by first | (simp; done) | (simp; omega)) ?_)
        (first | (simp; done) | (simp; omega))
      | true =>
        have e : quR t (i + n1) { a with path := (t.drop i).take n1 } = frR t (i + n1 + 1 + n2) { a with path := (t.drop i).take n1, hasQ := true, query := (t.drop (i + n1 + 1)).take n2 } := by unfold quR; rw [if_pos p1, hx2]; rfl
        rw [e]
        have eT3 : ((i : Int) + (n1 : Int) + 1 + (n2 : Int)).toNat = i + n1 + 1 + n2 := by omega
        have eT4 : ((i : Int) + (n1 : Int) + 1 + (n2 : Int) + 1).toNat = i + n1 + 1 + n2 + 1 := by omega
        have hq2 := hasPrefix_ok (t.drop (i + n1 + 1 + n2)) [35]
        by_cases p2 : [35] <+: t.drop (i + n1 + 1 + n2)
        · have hlt2 := pre_lt p2
          have e : frR t (i + n1 + 1 + n2) { a with path := (t.drop i).take n1, hasQ := true, query := (t.drop (i + n1 + 1)).take n2 } = ((rowE [] (t.drop (i + n1 + 1 + n2 + 1))).2, i + n1 + 1 + n2 + 1 + (rowE [] (t.drop (i + n1 + 1 + n2 + 1))).1, { a with path := (t.drop i).take n1, hasQ := true, query := (t.drop (i + n1 + 1)).take n2, hasF := true, frag := (t.drop (i + n1 + 1 + n2 + 1)).take (rowE [] (t.drop (i + n1 + 1 + n2 + 1))).1 }) := by unfold frR; rw [if_pos p2]
          rw [e]
          rw [List.isPrefixOf_iff_prefix.2 p2] at hq2
          have h3 := row_ok t [] (i + n1 + 1 + n2 + 1) { a with path := (t.drop i).take n1, hasQ := true, query := (t.drop (i + n1 + 1)).take n2, hasF := true } (by omega) hm
          rcases hx3 : rowE [] (t.drop (i + n1 + 1 + n2 + 1)) with ⟨n3, b3⟩
          rw [hx3] at h3
          cases b3 <;> repeat' (first | (first | refine Ya ?_ | refine Yb ?_ | refine Yc ?_ | refine Yd ?_ | refine Ye ?_ | refine Yf ?_ | refine Yg ?_ | refine Yh ?_ | refine Yi ?_ | refine Yj ?_ | refine Yk ?_ | refine Yl ?_ | refine Ym ?_ | refine Yn ?_ | refine Yo ?_ | refine Yp (h := ?_) | refine Yq ?_ | refine Yr ?_ | refine Ys ?_ | refine Zr hc (hk := ?_) | refine Zd hc (hk := ?_) | (refine Zc (ht := fun hb => ?_) (hf := fun hb => ?_) <;> (try simp at hb)) | fail) | (first | refine Zw hc (hf := by first | exact hq1 | exact hq2) (hk := ?_) | refine Zq hc (hf := by first | exact hq1 | exact hq2) (hk := ?_) | refine Zo hc (hk := ?_) | refine Zu hc (hk := ?_) | refine Ze hc (hk := ?_) | refine Zn hc (hk := ?_) | fail) | (first | refine run_callM ([(100000, 100000)]) (h1) hc (by simp; exact Gives.mk) (by simp; exact Gives.mk) (by simp; exact Gives.mk) (by simp; exact Gives.mk) (by simp; exact Gives.mk) rfl (by simp; exact Gives.mk) (by simp; exact Gives.mk) rfl (by simp) (by simp) (by simp; exact Gives.mk) (by simp; exact Gives.mk) ?_ | fail) | (first | refine run_callM ([(100000, 100000)]) (h2) hc (by simp; exact Gives.mk) (by simp; exact Gives.mk) (by simp; exact Gives.mk) (by simp; exact Gives.mk) (by simp; exact Gives.mk) rfl (by simp; exact Gives.mk) (by simp; exact Gives.mk) rfl (by simp) (by simp) (by simp; exact Gives.mk) (by simp; exact Gives.mk) ?_ | fail) | (first | refine run_callM ([(100000, 100000)]) (h3) hc (by simp; exact Gives.mk) (by simp; exact Gives.mk) (by simp; exact Gives.mk) (by simp; exact Gives.mk) (by simp; exact Gives.mk) rfl (by simp; exact Gives.mk) (by simp; exact Gives.mk) rfl (by simp) (by simp) (by simp; exact Gives.mk) (by simp; exact Gives.mk) ?_ | fail))
          all_goals try contradiction
          all_goals (refine run_leaveM [100000] hc (le_end rfl) (by simp; exact Gives.mk) (by simp; exact Gives.mk) (by first | (simp; done) | (simp; omega)) ?_)
          all_goals (first | (simp; done) | (simp; omega))
        · have e : frR t (i + n1 + 1 + n2) { a with path := (t.drop i).take n1, hasQ := true, query := (t.drop (i + n1 + 1)).take n2 } = (true, i + n1 + 1 + n2, { a with path := (t.drop i).take n1, hasQ := true, query := (t.drop (i + n1 + 1)).take n2 }) := by unfold frR; rw [if_neg p2]
          rw [e]
          rw [show ([35] : Bs).isPrefixOf (t.drop (i + n1 + 1 + n2)) = false by rw [← Bool.not_eq_true, List.isPrefixOf_iff_prefix]; exact p2] at hq2
          repeat' (first | (first | refine Ya ?_ | refine Yb ?_ | refine Yc ?_ | refine Yd ?_ | refine Ye ?_ | refine Yf ?_ | refine Yg ?_ | refine Yh ?_ | refine Yi ?_ | refine Yj ?_ | refine Yk ?_ | refine Yl ?_ | refine Ym ?_ | refine Yn ?_ | refine Yo ?_ | refine Yp (h := ?_) | refine Yq ?_ | refine Yr ?_ | refine Ys ?_ | refine Zr hc (hk := ?_) | refine Zd hc (hk := ?_) | (refine Zc (ht := fun hb => ?_) (hf := fun hb => ?_) <;> (try simp at hb)) | fail) | (first | refine Zw hc (hf := by first | exact hq1 | exact hq2) (hk := ?_) | refine Zq hc (hf := by first | exact hq1 | exact hq2) (hk := ?_) | refine Zo hc (hk := ?_) | refine Zu hc (hk := ?_) | refine Ze hc (hk := ?_) | refine Zn hc (hk := ?_) | fail) | (first | refine run_callM ([(100000, 100000)]) (h1) hc (by simp; exact Gives.mk) (by simp; exact Gives.mk) (by simp; exact Gives.mk) (by simp; exact Gives.mk) (by simp; exact Gives.mk) rfl (by simp; exact Gives.mk) (by simp; exact Gives.mk) rfl (by simp) (by simp) (by simp; exact Gives.mk) (by simp; exact Gives.mk) ?_ | fail) | (first | refine run_callM ([(100000, 100000)]) (h2) hc (by simp; exact Gives.mk) (by simp; exact Gives.mk) (by simp; exact Gives.mk) (by simp; exact Gives.mk) (by simp; exact Gives.mk) rfl (by simp; exact Gives.mk) (by simp; exact Gives.mk) rfl (by simp) (by simp) (by simp; exact Gives.mk) (by simp; exact Gives.mk) ?_ | fail))
          all_goals try contradiction
          (refine run_leaveM [100000] hc (le_end rfl) (by simp; exact Gives.mk) (by simp; exact Gives.mk) (by first | (simp; done) | (simp; omega)) ?_)
          (first | (simp; done) | (simp; omega))
    · have e : quR t (i + n1) { a with path := (t.drop i).take n1 } = frR t (i + n1) { a with path := (t.drop i).take n1 } := by unfold quR; rw [if_neg p1]
      rw [e]
      rw [show ([63] : Bs).isPrefixOf (t.drop (i + n1)) = false by rw [← Bool.not_eq_true, List.isPrefixOf_iff_prefix]; exact p1] at hq1
      have hq2 := hasPrefix_ok (t.drop (i + n1)) [35]
      by_cases p2 : [35] <+: t.drop (i + n1)
      · have hlt2 := pre_lt p2
        have e : frR t (i + n1) { a with path := (t.drop i).take n1 } = ((rowE [] (t.drop (i + n1 + 1))).2, i + n1 + 1 + (rowE [] (t.drop (i + n1 + 1))).1, { a with path := (t.drop i).take n1, hasF := true, frag := (t.drop (i + n1 + 1)).take (rowE [] (t.drop (i + n1 + 1))).1 }) := by unfold frR; rw [if_pos p2]
        rw [e]
        rw [List.isPrefixOf_iff_prefix.2 p2] at hq2
        have h3 := row_ok t [] (i + n1 + 1) { a with path := (t.drop i).take n1, hasF := true } (by omega) hm
        rcases hx3 : rowE [] (t.drop (i + n1 + 1)) with ⟨n3, b3⟩
        rw [hx3] at h3
        cases b3 <;> repeat' (first | (first | refine Ya ?_ | refine Yb ?_ | refine Yc ?_ | refine Yd ?_ | refine Ye ?_ | refine Yf ?_ | refine Yg ?_ | refine Yh ?_ | refine Yi ?_ | refine Yj ?_ | refine Yk ?_ | refine Yl ?_ | refine Ym ?_ | refine Yn ?_ | refine Yo ?_ | refine Yp (h := ?_) | refine Yq ?_ | refine Yr ?_ | refine Ys ?_ | refine Zr hc (hk := ?_) | refine Zd hc (hk := ?_) | (refine Zc (ht := fun hb => ?_) (hf := fun hb => ?_) <;> (try simp at hb)) | fail) | (first | refine Zw hc (hf := by first | exact hq1 | exact hq2) (hk := ?_) | refine Zq hc (hf := by first | exact hq1 | exact hq2) (hk := ?_) | refine Zo hc (hk := ?_) | refine Zu hc (hk := ?_) | refine Ze hc (hk := ?_) | refine Zn hc (hk := ?_) | fail) | (first | refine run_callM ([(100000, 100000)]) (h1) hc (by simp; exact Gives.mk) (by simp; exact Gives.mk) (by simp; exact Gives.mk) (by simp; exact Gives.mk) (by simp; exact Gives.mk) rfl (by simp; exact Gives.mk) (by simp; exact Gives.mk) rfl (by simp) (by simp) (by simp; exact Gives.mk) (by simp; exact Gives.mk) ?_ | fail) | (first | refine run_callM ([(100000, 100000)]) (h3) hc (by simp; exact Gives.mk) (by simp; exact Gives.mk) (by simp; exact Gives.mk) (by simp; exact Gives.mk) (by simp; exact Gives.mk) rfl (by simp; exact Gives.mk) (by simp; exact Gives.mk) rfl (by simp) (by simp) (by simp; exact Gives.mk) (by simp; exact Gives.mk) ?_ | fail))
        all_goals try contradiction
        all_goals (refine run_leaveM [100000] hc (le_end rfl) (by simp; exact Gives.mk) (by simp; exact Gives.mk) (by first | (simp; done) | (simp; omega)) ?_)
        all_goals (first | (simp; done) | (simp; omega))
      · have e : frR t (i + n1) { a with path := (t.drop i).take n1 } = (true, i + n1, { a with path := (t.drop i).take n1 }) := by unfold frR; rw [if_neg p2]
        rw [e]
        rw [show ([35] : Bs).isPrefixOf (t.drop (i + n1)) = false by rw [← Bool.not_eq_true, List.isPrefixOf_iff_prefix]; exact p2] at hq2
        repeat' (first | (first | refine Ya ?_ | refine Yb ?_ | refine Yc ?_ | refine Yd ?_ | refine Ye ?_ | refine Yf ?_ | refine Yg ?_ | refine Yh ?_ | refine Yi ?_ | refine Yj ?_ | refine Yk ?_ | refine Yl ?_ | refine Ym ?_ | refine Yn ?_ | refine Yo ?_ | refine Yp (h := ?_) | refine Yq ?_ | refine Yr ?_ | refine Ys ?_ | refine Zr hc (hk := ?_) | refine Zd hc (hk := ?_) | (refine Zc (ht := fun hb => ?_) (hf := fun hb => ?_) <;> (try simp at hb)) | fail) | (first | refine Zw hc (hf := by first | exact hq1 | exact hq2) (hk := ?_) | refine Zq hc (hf := by first | exact hq1 | exact hq2) (hk := ?_) | refine Zo hc (hk := ?_) | refine Zu hc (hk := ?_) | refine Ze hc (hk := ?_) | refine Zn hc (hk := ?_) | fail) | (first | refine run_callM ([(100000, 100000)]) (h1) hc (by simp; exact Gives.mk) (by simp; exact Gives.mk) (by simp; exact Gives.mk) (by simp; exact Gives.mk) (by simp; exact Gives.mk) rfl (by simp; exact Gives.mk) (by simp; exact Gives.mk) rfl (by simp) (by simp) (by simp; exact Gives.mk) (by simp; exact Gives.mk) ?_ | fail))
        all_goals try contradiction
        (refine run_leaveM [100000] hc (le_end rfl) (by simp; exact Gives.mk) (by simp; exact Gives.mk) (by first | (simp; done) | (simp; omega)) ?_)
        (first | (simp; done) | (simp; omega))
end Go.Proofs.YtglonkenckigiaaGreatDoor
