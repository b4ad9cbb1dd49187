/-
  ADDRESS: the scheme. (WITH run_drawN.)
-/
import Derived.Test.YtpmfmjgnhdfakaaGreatDoorAdB
import Derived.Test.YtpmfmjgnhdfakaaGreatDoorAdK
import Derived.Test.YtpmfmjgnhdfakaaGreatDoorLwPh
set_option linter.unusedSimpArgs false
set_option linter.unusedVariables false
namespace Go.Proofs.YtpmfmjgnhdfakaaGreatDoor
open Go.Lw Go.RowKit
set_option maxRecDepth 100000
set_option maxHeartbeats 1000000

def pmAt (w t : Bs) (n : Nat) : Nat := n + pmatch (w.drop n) (t.drop n)
theorem pmAt_step (w t : Bs) (n : Nat) (h1 : n < w.length) (h2 : n < t.length) : pmAt w t n = if low (t[n]?.getD 0) = w[n]?.getD 0 then pmAt w t (n + 1) else n := by
  unfold pmAt
  rw [drop_get w n h1, drop_get t n h2]
  simp only [pmatch]
  split
  · omega
  · rfl
theorem pmAt_end (w t : Bs) (n : Nat) (h : w.length ≤ n ∨ t.length ≤ n) : pmAt w t n = n := by
  unfold pmAt
  rcases h with h | h
  · rw [List.drop_of_length_le h]; simp [pmatch]
  · rw [List.drop_of_length_le h]; cases w.drop n <;> simp [pmatch]
theorem one_at (t : Bs) (n : Nat) (h : n < t.length) : (t.take (n + 1)).drop n = [t[n]?.getD 0] := by
  rw [List.take_add_one, List.drop_append_of_le_length (by simp; omega), List.drop_of_length_le (by simp; omega)]
  simp [h]
theorem pm_yes {w t : Bs} {n : Nat} (h1 : n < w.length) (h2 : n < t.length) (h3 : small ((t.take (n + 1)).drop n) = (w.take (n + 1)).drop n) : pmAt w t n = pmAt w t (n + 1) := by
  rw [one_at t n h2, one_at w n h1] at h3
  rw [pmAt_step w t n h1 h2, if_pos (by simpa [small] using h3)]
theorem pm_no {w t : Bs} {n : Nat} (h : n < w.length → n < t.length → ¬ small ((t.take (n + 1)).drop n) = (w.take (n + 1)).drop n) : pmAt w t n = n := by
  by_cases h1 : n < w.length
  · by_cases h2 : n < t.length
    · have h3 := h h1 h2
      rw [one_at t n h2, one_at w n h1] at h3
      rw [pmAt_step w t n h1 h2, if_neg (by simpa [small] using h3)]
    · exact pmAt_end w t n (.inr (by omega))
  · exact pmAt_end w t n (.inl (by omega))
def schD (t : Bs) : D := match schemeP t with
  | .ok (s, n) => .tup [str s, int n, tru true]
  | .error n => .tup [str [], int n, tru false]
def mxP (t : Bs) : Nat → Nat
  | 0 => 0
  | 1 => pmatch httpW t
  | _ => max (pmatch httpW t) (pmatch httpsW t)
theorem scheme_ok (t : Bs) (hm : t.length ≤ 4611686018427387904) : FnOk Tryz.prog 26 [str t] (schD t) := by
  refine fnOk Tryz.func26 rfl (by kernel_rfl) Tryz.ntmps26 _ rfl (by simp) fun C hc => ?_
  have hp1 := pmatch_le httpW t
  have hp2 := pmatch_le httpsW t
  repeat' (first | (first | refine Ya ?_ | refine Yb ?_ | refine Yc ?_ | refine Yd ?_ | refine Ye ?_ | refine Yf ?_ | refine Yg ?_ | refine Yh ?_ | refine Yi ?_ | refine Yj ?_ | refine Yk ?_ | refine Yl ?_ | refine Ym ?_ | refine Yn ?_ | refine Yo ?_ | refine Yp (h := ?_) | refine Yq ?_ | refine Yr ?_ | refine Ys ?_ | refine Zr hc (hk := ?_) | refine Zd hc (hk := ?_) | (refine Zc (ht := fun hb => ?_) (hf := fun hb => ?_) <;> (try simp at hb)) | fail) | (first | refine Zo hc (hk := ?_) | refine Zu hc (hk := ?_) | refine Ze hc (hk := ?_) | refine Zn hc (hk := ?_) | fail))
  refine ewp_loop (fun j : Nat => ⟨[(0, .d (str t)), (3, .d (int (mxP t j))), (8, .os 8 2), (9, .d (int 2)), (10, .d (int j))], [(8, .own 9 1 (true, [str []]) [[str httpW], [str httpsW]])]⟩) (fun j => j ≤ 2 ∧ (1 ≤ j → pmatch httpW t ≠ 7) ∧ (2 ≤ j → pmatch httpsW t ≠ 8)) (fun j => 2 - j) 0 (by simp) (run_keep [0, 3, 8, 9, 10] [8] (by simp; exact Gives.mk) (by simp; exact Gives.mk)) ?_
  rintro j ⟨h1, h2, h3⟩
  obtain rfl | rfl | rfl : j = 0 ∨ j = 1 ∨ j = 2 := by omega
  · repeat' (first | (first | refine Ya ?_ | refine Yb ?_ | refine Yc ?_ | refine Yd ?_ | refine Ye ?_ | refine Yf ?_ | refine Yg ?_ | refine Yh ?_ | refine Yi ?_ | refine Yj ?_ | refine Yk ?_ | refine Yl ?_ | refine Ym ?_ | refine Yn ?_ | refine Yo ?_ | refine Yp (h := ?_) | refine Yq ?_ | refine Yr ?_ | refine Ys ?_ | refine Zr hc (hk := ?_) | refine Zd hc (hk := ?_) | (refine Zc (ht := fun hb => ?_) (hf := fun hb => ?_) <;> (try simp at hb)) | fail) | (first | refine Zo hc (hk := ?_) | refine Zu hc (hk := ?_) | refine Ze hc (hk := ?_) | refine Zn hc (hk := ?_) | fail))
    refine ewp_loop (fun n : Nat => ⟨[(0, .d (str t)), (3, .d (int (mxP t 0))), (6, .d (str httpW)), (7, .d (int n)), (8, .os 8 2), (9, .d (int 2)), (10, .d (int 0))], [(8, .own 9 1 (true, [str []]) [[str httpW], [str httpsW]])]⟩) (fun n => n ≤ 7 ∧ n ≤ t.length ∧ pmatch httpW t = pmAt httpW t n) (fun n => 7 - n) 0 (by simp [pmAt]) (run_keep [0, 3, 6, 7, 8, 9, 10] [8] (by simp; exact Gives.mk) (by simp; exact Gives.mk)) ?_
    rintro n ⟨k1, k2, k3⟩
    have hlw : httpW.length = 7 := rfl
    
    repeat' (first | (first | refine ewp_seq ?_ | refine run_region hc (by simp [hlw]; exact Ends.go) (by first | exact True.intro | omega | assumption | (simp; done) | (simp; omega) | (simp at *; omega)) ?_ | refine run_draw hc (by kernel_rfl) (by kernel_rfl) (by simp [hlw]; exact Ends.go) (by first | exact True.intro | omega | assumption | (simp; done) | (simp; omega) | (simp at *; omega)) ?_ | refine ewp_scope ?_ | refine scopeQ_normal ?_ | refine scopeQ_ret ?_ | refine scopeQ_exit ?_ | refine ewp_skip ?_ | refine ewp_block ?_ | refine ewp_exit ?_ | refine ewp_label ?_ | refine thenQ_normal ?_ | refine thenQ_ret ?_ | refine thenQ_exit ?_ | refine blockQ_normal ?_ | refine blockQ_ret ?_ | refine blockQ_here ?_ | refine blockQ_there (by decide) ?_ | refine ewp_ret ?_ | refine opsW_nil ?_ | refine quietW_nil ?_ | (refine run_cond (by simp [hlw]; exact Gives.mk) (fun hb => ?_) (fun hb => ?_) <;> (try simp at hb)) | fail) | (first | refine run_callW hc (by simp [hlw]; exact Gives.mk) (by simp [hlw]; exact Gives.mk) (by simp [hlw]; exact Gives.mk) (by simp [hlw]; exact Gives.mk) (by simp [hlw]; exact Gives.mk) (fun _ => by first | exact small_ok _ (by simp [hlw]; omega)) (by simp) (by simp) ?_ | refine run_callQ hc (by simp [hlw]; exact Gives.mk) (by simp [hlw]; exact Gives.mk) (by simp [hlw]; exact Gives.mk) (by simp [hlw]; exact Gives.mk) (by simp [hlw]; exact Gives.mk) (fun _ => by first | exact small_ok _ (by simp [hlw]; omega)) (by simp) (by simp) ?_ | refine run_ops hc (by simp [hlw]; first | exact Ends.go | exact Ends.halt) (by decide) (by first | exact True.intro | omega | assumption | (simp; done) | (simp; omega) | (simp at *; omega)) ?_ | refine run_quiet hc (by simp [hlw]; first | exact Ends.go | exact Ends.halt) (by decide) (by first | exact True.intro | omega | assumption | (simp; done) | (simp; omega) | (simp at *; omega)) ?_ | refine run_regionW hc (by simp [hlw]; exact Ends.halt) (by first | exact True.intro | omega | assumption | (simp; done) | (simp; omega) | (simp at *; omega)) ?_ | refine run_drawN hc (by kernel_rfl) (by decide) (by kernel_rfl) (by simp [hlw]; exact Ends.halt) (by first | exact True.intro | omega | assumption | (simp; done) | (simp; omega) | (simp at *; omega)) ?_ | fail))
    · obtain ⟨⟨g1, g2⟩, g3⟩ := hb
      exact ⟨n + 1, ⟨by omega, by omega, by rw [k3]; exact pm_yes (by omega) g2 g3⟩, by omega, run_back [0, 3, 6, 7, 8, 9, 10] [8] (by simp [hlw]; exact Gives.mk) (by simp [hlw]; exact Gives.mk) (by simp)⟩
    · rename_i g1
      have hv : pmatch httpW t = n := by rw [k3]; exact pm_no (fun x y => g1 (by omega) y)
      have e : schD t = .tup [str (t.take (n - 3)), int n, tru true] := by
        have : n = 7 := by omega
        subst this
        unfold schD schemeP
        rw [if_pos hv]
      rw [e]
      (refine run_leave hc (by simp [hlw]; exact Gives.mk) ?_)
      simp
    · rename_i g1
      have hv : pmatch httpW t = n := by rw [k3]; exact pm_no (fun x y => g1 (by omega) y)
      refine ⟨1, ⟨by omega, fun _ => by omega, fun _ => by omega⟩, by omega, run_back [0, 3, 8, 9, 10] [8] (by simp [hlw]; exact Gives.mk) (by simp [hlw]; exact Gives.mk) ?_⟩
      simp [mxP, hv]
      try omega
    
  · repeat' (first | (first | refine Ya ?_ | refine Yb ?_ | refine Yc ?_ | refine Yd ?_ | refine Ye ?_ | refine Yf ?_ | refine Yg ?_ | refine Yh ?_ | refine Yi ?_ | refine Yj ?_ | refine Yk ?_ | refine Yl ?_ | refine Ym ?_ | refine Yn ?_ | refine Yo ?_ | refine Yp (h := ?_) | refine Yq ?_ | refine Yr ?_ | refine Ys ?_ | refine Zr hc (hk := ?_) | refine Zd hc (hk := ?_) | (refine Zc (ht := fun hb => ?_) (hf := fun hb => ?_) <;> (try simp at hb)) | fail) | (first | refine Zo hc (hk := ?_) | refine Zu hc (hk := ?_) | refine Ze hc (hk := ?_) | refine Zn hc (hk := ?_) | fail))
    refine ewp_loop (fun n : Nat => ⟨[(0, .d (str t)), (3, .d (int (mxP t 1))), (6, .d (str httpsW)), (7, .d (int n)), (8, .os 8 2), (9, .d (int 2)), (10, .d (int 1))], [(8, .own 9 1 (true, [str []]) [[str httpW], [str httpsW]])]⟩) (fun n => n ≤ 8 ∧ n ≤ t.length ∧ pmatch httpsW t = pmAt httpsW t n) (fun n => 8 - n) 0 (by simp [pmAt]) (run_keep [0, 3, 6, 7, 8, 9, 10] [8] (by simp; exact Gives.mk) (by simp; exact Gives.mk)) ?_
    rintro n ⟨k1, k2, k3⟩
    have hlw : httpsW.length = 8 := rfl
    
    repeat' (first | (first | refine ewp_seq ?_ | refine run_region hc (by simp [hlw]; exact Ends.go) (by first | exact True.intro | omega | assumption | (simp; done) | (simp; omega) | (simp at *; omega)) ?_ | refine run_draw hc (by kernel_rfl) (by kernel_rfl) (by simp [hlw]; exact Ends.go) (by first | exact True.intro | omega | assumption | (simp; done) | (simp; omega) | (simp at *; omega)) ?_ | refine ewp_scope ?_ | refine scopeQ_normal ?_ | refine scopeQ_ret ?_ | refine scopeQ_exit ?_ | refine ewp_skip ?_ | refine ewp_block ?_ | refine ewp_exit ?_ | refine ewp_label ?_ | refine thenQ_normal ?_ | refine thenQ_ret ?_ | refine thenQ_exit ?_ | refine blockQ_normal ?_ | refine blockQ_ret ?_ | refine blockQ_here ?_ | refine blockQ_there (by decide) ?_ | refine ewp_ret ?_ | refine opsW_nil ?_ | refine quietW_nil ?_ | (refine run_cond (by simp [hlw]; exact Gives.mk) (fun hb => ?_) (fun hb => ?_) <;> (try simp at hb)) | fail) | (first | refine run_callW hc (by simp [hlw]; exact Gives.mk) (by simp [hlw]; exact Gives.mk) (by simp [hlw]; exact Gives.mk) (by simp [hlw]; exact Gives.mk) (by simp [hlw]; exact Gives.mk) (fun _ => by first | exact small_ok _ (by simp [hlw]; omega)) (by simp) (by simp) ?_ | refine run_callQ hc (by simp [hlw]; exact Gives.mk) (by simp [hlw]; exact Gives.mk) (by simp [hlw]; exact Gives.mk) (by simp [hlw]; exact Gives.mk) (by simp [hlw]; exact Gives.mk) (fun _ => by first | exact small_ok _ (by simp [hlw]; omega)) (by simp) (by simp) ?_ | refine run_ops hc (by simp [hlw]; first | exact Ends.go | exact Ends.halt) (by decide) (by first | exact True.intro | omega | assumption | (simp; done) | (simp; omega) | (simp at *; omega)) ?_ | refine run_quiet hc (by simp [hlw]; first | exact Ends.go | exact Ends.halt) (by decide) (by first | exact True.intro | omega | assumption | (simp; done) | (simp; omega) | (simp at *; omega)) ?_ | refine run_regionW hc (by simp [hlw]; exact Ends.halt) (by first | exact True.intro | omega | assumption | (simp; done) | (simp; omega) | (simp at *; omega)) ?_ | refine run_drawN hc (by kernel_rfl) (by decide) (by kernel_rfl) (by simp [hlw]; exact Ends.halt) (by first | exact True.intro | omega | assumption | (simp; done) | (simp; omega) | (simp at *; omega)) ?_ | fail))
    · obtain ⟨⟨g1, g2⟩, g3⟩ := hb
      exact ⟨n + 1, ⟨by omega, by omega, by rw [k3]; exact pm_yes (by omega) g2 g3⟩, by omega, run_back [0, 3, 6, 7, 8, 9, 10] [8] (by simp [hlw]; exact Gives.mk) (by simp [hlw]; exact Gives.mk) (by simp)⟩
    · rename_i g1
      have hv : pmatch httpsW t = n := by rw [k3]; exact pm_no (fun x y => g1 (by omega) y)
      have e : schD t = .tup [str (t.take (n - 3)), int n, tru true] := by
        have : n = 8 := by omega
        subst this
        unfold schD schemeP
        rw [if_neg (h2 (by omega)), if_pos hv]
      rw [e]
      (refine run_leave hc (by simp [hlw]; exact Gives.mk) ?_)
      simp
    · rename_i g1
      have hv : pmatch httpsW t = n := by rw [k3]; exact pm_no (fun x y => g1 (by omega) y)
      refine ⟨2, ⟨by omega, fun _ => h2 (by omega), fun _ => by omega⟩, by omega, run_back [0, 3, 8, 9, 10] [8] (by simp [hlw]; exact Gives.mk) (by simp [hlw]; exact Gives.mk) ?_⟩
      simp [mxP, hv]
      try omega
    
  · repeat' (first | (first | refine Ya ?_ | refine Yb ?_ | refine Yc ?_ | refine Yd ?_ | refine Ye ?_ | refine Yf ?_ | refine Yg ?_ | refine Yh ?_ | refine Yi ?_ | refine Yj ?_ | refine Yk ?_ | refine Yl ?_ | refine Ym ?_ | refine Yn ?_ | refine Yo ?_ | refine Yp (h := ?_) | refine Yq ?_ | refine Yr ?_ | refine Ys ?_ | refine Zr hc (hk := ?_) | refine Zd hc (hk := ?_) | (refine Zc (ht := fun hb => ?_) (hf := fun hb => ?_) <;> (try simp at hb)) | fail) | (first | refine Zo hc (hk := ?_) | refine Zu hc (hk := ?_) | refine Ze hc (hk := ?_) | refine Zn hc (hk := ?_) | fail))
    · have e : schD t = .tup [str [], int (mxP t 2), tru false] := by
        unfold schD schemeP
        rw [if_neg (h2 (by omega)), if_neg (h3 (by omega))]
        rfl
      rw [e]
      (refine Zl hc (hr := ?_))
      simp
end Go.Proofs.YtpmfmjgnhdfakaaGreatDoor
/-
  ADDRESS: the reader. (WITH run_drawN.)
-/
set_option linter.unusedSimpArgs false
set_option linter.unusedVariables false
namespace Go.Proofs.YtpmfmjgnhdfakaaGreatDoor
open Go.Lw Go.RowKit
set_option maxRecDepth 100000
set_option maxHeartbeats 1000000

abbrev rdrL (t : Bs) (i : Int) (a : Adr) : List V := [.d (str t), .d (int i), .d (str a.scheme), .d (str a.host), .d (str a.port), .d (str a.path), .d (str a.query), .d (tru a.hasQ), .d (str a.frag), .d (tru a.hasF)]
abbrev rdr (t : Bs) (i : Int) (a : Adr) : List (Nat × O) := [(100000, .box 74 (rdrL t i a))]
theorem cut_eq (t : Bs) (i n : Nat) : (t.take (i + n)).drop i = (t.drop i).take n := by rw [List.drop_take]; simp
theorem row_ok (t w : Bs) (i : Nat) (a : Adr) (hi : i ≤ t.length) (hm : t.length ≤ 4611686018427387904) :
    FnMem Tryz.prog 66 [.bp 100000 0, .d (str w)] (rdr t i a) (.d (.tup [str ((t.drop i).take (rowE w (t.drop i)).1), tru (rowE w (t.drop i)).2])) (rdr t ((i + (rowE w (t.drop i)).1 : Nat) : Int) a) := by
  refine fnMem Tryz.func66 rfl (by kernel_rfl) Tryz.ntmps66 _ rfl (by simp) fun C hc => ?_
  have hle := rowE_le w (t.drop i)
  simp only [List.length_drop] at hle
  rw [← cut_eq]
  have hro := rowEnd_ok (t.drop i) w (by simp; omega)
  have eT : ((i : Int) + ((rowE w (t.drop i)).1 : Int)).toNat = i + (rowE w (t.drop i)).1 := by omega
  repeat' (first | (first | refine Ya ?_ | refine Yb ?_ | refine Yc ?_ | refine Yd ?_ | refine Ye ?_ | refine Yf ?_ | refine Yg ?_ | refine Yh ?_ | refine Yi ?_ | refine Yj ?_ | refine Yk ?_ | refine Yl ?_ | refine Ym ?_ | refine Yn ?_ | refine Yo ?_ | refine Yp (h := ?_) | refine Yq ?_ | refine Yr ?_ | refine Ys ?_ | refine Zr hc (hk := ?_) | refine Zd hc (hk := ?_) | (refine Zc (ht := fun hb => ?_) (hf := fun hb => ?_) <;> (try simp at hb)) | fail) | (first | refine Zw hc (hf := by exact hro) (hk := ?_) | refine Zq hc (hf := by exact hro) (hk := ?_) | refine Zo hc (hk := ?_) | refine Zu hc (hk := ?_) | refine Ze hc (hk := ?_) | refine Zn hc (hk := ?_) | fail))
  (refine run_leaveM [100000] hc (le_end rfl) (by simp; exact Gives.mk) (by simp; exact Gives.mk) (by first | (simp; done) | (simp; omega)) ?_)
  (first | (simp; done) | (simp; omega))
theorem rest_ok (t : Bs) (i : Nat) (a : Adr) (hi : i ≤ t.length) (hm : t.length ≤ 4611686018427387904) :
    FnMem Tryz.prog 28 [.bp 100000 0] (rdr t i a) (.d (tru (reR t i a).1)) (rdr t (((reR t i a).2.1 : Nat) : Int) (reR t i a).2.2) := by
  refine fnMem Tryz.func28 rfl (by kernel_rfl) Tryz.ntmps28 _ rfl (by simp) fun C hc => ?_
  have hl1 := rowE_le [63, 35] (t.drop i)
  have h1 := row_ok t [63, 35] i a hi hm
  rcases hx1 : rowE [63, 35] (t.drop i) with ⟨n1, b1⟩
  rw [hx1] at hl1 h1
  simp only [List.length_drop] at hl1 h1
  cases b1 with
  | false =>
    have e : reR t i a = (false, i + n1, { a with path := (t.drop i).take n1 }) := by unfold reR; rw [hx1]; rfl
    rw [e]
    repeat' (first | (first | refine Ya ?_ | refine Yb ?_ | refine Yc ?_ | refine Yd ?_ | refine Ye ?_ | refine Yf ?_ | refine Yg ?_ | refine Yh ?_ | refine Yi ?_ | refine Yj ?_ | refine Yk ?_ | refine Yl ?_ | refine Ym ?_ | refine Yn ?_ | refine Yo ?_ | refine Yp (h := ?_) | refine Yq ?_ | refine Yr ?_ | refine Ys ?_ | refine Zr hc (hk := ?_) | refine Zd hc (hk := ?_) | (refine Zc (ht := fun hb => ?_) (hf := fun hb => ?_) <;> (try simp at hb)) | fail) | (first | refine Zo hc (hk := ?_) | refine Zu hc (hk := ?_) | refine Ze hc (hk := ?_) | refine Zn hc (hk := ?_) | fail) | (first | refine run_callM ([(100000, 100000)]) (h1) hc (by simp; exact Gives.mk) (by simp; exact Gives.mk) (by simp; exact Gives.mk) (by simp; exact Gives.mk) (by simp; exact Gives.mk) rfl (by simp; exact Gives.mk) (by simp; exact Gives.mk) rfl (by simp) (by simp) (by simp; exact Gives.mk) (by simp; exact Gives.mk) ?_ | fail))
    all_goals try contradiction
    (refine run_leaveM [100000] hc (le_end rfl) (by simp; exact Gives.mk) (by simp; exact Gives.mk) (by first | (simp; done) | (simp; omega)) ?_)
    (first | (simp; done) | (simp; omega))
  | true =>
    have e : reR t i a = quR t (i + n1) { a with path := (t.drop i).take n1 } := by unfold reR; rw [hx1]; rfl
    rw [e]
    have eT1 : ((i : Int) + (n1 : Int)).toNat = i + n1 := by omega
    have eT2 : ((i : Int) + (n1 : Int) + 1).toNat = i + n1 + 1 := by omega
    have hq1 := hasPrefix_ok (t.drop (i + n1)) [63]
    by_cases p1 : [63] <+: t.drop (i + n1)
    · rw [List.isPrefixOf_iff_prefix.2 p1] at hq1
      have hlt := pre_lt p1
      have hl2 := rowE_le [35] (t.drop (i + n1 + 1))
      have h2 := row_ok t [35] (i + n1 + 1) { a with path := (t.drop i).take n1, hasQ := true } (by omega) hm
      rcases hx2 : rowE [35] (t.drop (i + n1 + 1)) with ⟨n2, b2⟩
      rw [hx2] at hl2 h2
      simp only [List.length_drop] at hl2 h2
      cases b2 with
      | false =>
        have e : quR t (i + n1) { a with path := (t.drop i).take n1 } = (false, i + n1 + 1 + n2, { a with path := (t.drop i).take n1, hasQ := true, query := (t.drop (i + n1 + 1)).take n2 }) := by unfold quR; rw [if_pos p1, hx2]; rfl
        rw [e]
        repeat' (first | (first | refine Ya ?_ | refine Yb ?_ | refine Yc ?_ | refine Yd ?_ | refine Ye ?_ | refine Yf ?_ | refine Yg ?_ | refine Yh ?_ | refine Yi ?_ | refine Yj ?_ | refine Yk ?_ | refine Yl ?_ | refine Ym ?_ | refine Yn ?_ | refine Yo ?_ | refine Yp (h := ?_) | refine Yq ?_ | refine Yr ?_ | refine Ys ?_ | refine Zr hc (hk := ?_) | refine Zd hc (hk := ?_) | (refine Zc (ht := fun hb => ?_) (hf := fun hb => ?_) <;> (try simp at hb)) | fail) | (first | refine Zw hc (hf := by exact hq1) (hk := ?_) | refine Zq hc (hf := by exact hq1) (hk := ?_) | refine Zo hc (hk := ?_) | refine Zu hc (hk := ?_) | refine Ze hc (hk := ?_) | refine Zn hc (hk := ?_) | fail) | (first | refine run_callM ([(100000, 100000)]) (h1) hc (by simp; exact Gives.mk) (by simp; exact Gives.mk) (by simp; exact Gives.mk) (by simp; exact Gives.mk) (by simp; exact Gives.mk) rfl (by simp; exact Gives.mk) (by simp; exact Gives.mk) rfl (by simp) (by simp) (by simp; exact Gives.mk) (by simp; exact Gives.mk) ?_ | fail) | (first | refine run_callM ([(100000, 100000)]) (h2) hc (by simp; exact Gives.mk) (by simp; exact Gives.mk) (by simp; exact Gives.mk) (by simp; exact Gives.mk) (by simp; exact Gives.mk) rfl (by simp; exact Gives.mk) (by simp; exact Gives.mk) rfl (by simp) (by simp) (by simp; exact Gives.mk) (by simp; exact Gives.mk) ?_ | fail))
        all_goals try contradiction
        (refine run_leaveM [100000] hc (le_end rfl) (by simp; exact Gives.mk) (by simp; exact Gives.mk) (by first | (simp; done) | (simp; omega)) ?_)
        (first | (simp; done) | (simp; omega))
      | true =>
        have e : quR t (i + n1) { a with path := (t.drop i).take n1 } = frR t (i + n1 + 1 + n2) { a with path := (t.drop i).take n1, hasQ := true, query := (t.drop (i + n1 + 1)).take n2 } := by unfold quR; rw [if_pos p1, hx2]; rfl
        rw [e]
        have eT3 : ((i : Int) + (n1 : Int) + 1 + (n2 : Int)).toNat = i + n1 + 1 + n2 := by omega
        have eT4 : ((i : Int) + (n1 : Int) + 1 + (n2 : Int) + 1).toNat = i + n1 + 1 + n2 + 1 := by omega
        have hq2 := hasPrefix_ok (t.drop (i + n1 + 1 + n2)) [35]
        by_cases p2 : [35] <+: t.drop (i + n1 + 1 + n2)
        · have hlt2 := pre_lt p2
          have e : frR t (i + n1 + 1 + n2) { a with path := (t.drop i).take n1, hasQ := true, query := (t.drop (i + n1 + 1)).take n2 } = ((rowE [] (t.drop (i + n1 + 1 + n2 + 1))).2, i + n1 + 1 + n2 + 1 + (rowE [] (t.drop (i + n1 + 1 + n2 + 1))).1, { a with path := (t.drop i).take n1, hasQ := true, query := (t.drop (i + n1 + 1)).take n2, hasF := true, frag := (t.drop (i + n1 + 1 + n2 + 1)).take (rowE [] (t.drop (i + n1 + 1 + n2 + 1))).1 }) := by unfold frR; rw [if_pos p2]
          rw [e]
          rw [List.isPrefixOf_iff_prefix.2 p2] at hq2
          have h3 := row_ok t [] (i + n1 + 1 + n2 + 1) { a with path := (t.drop i).take n1, hasQ := true, query := (t.drop (i + n1 + 1)).take n2, hasF := true } (by omega) hm
          rcases hx3 : rowE [] (t.drop (i + n1 + 1 + n2 + 1)) with ⟨n3, b3⟩
          rw [hx3] at h3
          cases b3 <;> repeat' (first | (first | refine Ya ?_ | refine Yb ?_ | refine Yc ?_ | refine Yd ?_ | refine Ye ?_ | refine Yf ?_ | refine Yg ?_ | refine Yh ?_ | refine Yi ?_ | refine Yj ?_ | refine Yk ?_ | refine Yl ?_ | refine Ym ?_ | refine Yn ?_ | refine Yo ?_ | refine Yp (h := ?_) | refine Yq ?_ | refine Yr ?_ | refine Ys ?_ | refine Zr hc (hk := ?_) | refine Zd hc (hk := ?_) | (refine Zc (ht := fun hb => ?_) (hf := fun hb => ?_) <;> (try simp at hb)) | fail) | (first | refine Zw hc (hf := by first | exact hq1 | exact hq2) (hk := ?_) | refine Zq hc (hf := by first | exact hq1 | exact hq2) (hk := ?_) | refine Zo hc (hk := ?_) | refine Zu hc (hk := ?_) | refine Ze hc (hk := ?_) | refine Zn hc (hk := ?_) | fail) | (first | refine run_callM ([(100000, 100000)]) (h1) hc (by simp; exact Gives.mk) (by simp; exact Gives.mk) (by simp; exact Gives.mk) (by simp; exact Gives.mk) (by simp; exact Gives.mk) rfl (by simp; exact Gives.mk) (by simp; exact Gives.mk) rfl (by simp) (by simp) (by simp; exact Gives.mk) (by simp; exact Gives.mk) ?_ | fail) | (first | refine run_callM ([(100000, 100000)]) (h2) hc (by simp; exact Gives.mk) (by simp; exact Gives.mk) (by simp; exact Gives.mk) (by simp; exact Gives.mk) (by simp; exact Gives.mk) rfl (by simp; exact Gives.mk) (by simp; exact Gives.mk) rfl (by simp) (by simp) (by simp; exact Gives.mk) (by simp; exact Gives.mk) ?_ | fail) | (first | refine run_callM ([(100000, 100000)]) (h3) hc (by simp; exact Gives.mk) (by simp; exact Gives.mk) (by simp; exact Gives.mk) (by simp; exact Gives.mk) (by simp; exact Gives.mk) rfl (by simp; exact Gives.mk) (by simp; exact Gives.mk) rfl (by simp) (by simp) (by simp; exact Gives.mk) (by simp; exact Gives.mk) ?_ | fail))
          all_goals try contradiction
          all_goals (refine run_leaveM [100000] hc (le_end rfl) (by simp; exact Gives.mk) (by simp; exact Gives.mk) (by first | (simp; done) | (simp; omega)) ?_)
          all_goals (first | (simp; done) | (simp; omega))
        · have e : frR t (i + n1 + 1 + n2) { a with path := (t.drop i).take n1, hasQ := true, query := (t.drop (i + n1 + 1)).take n2 } = (true, i + n1 + 1 + n2, { a with path := (t.drop i).take n1, hasQ := true, query := (t.drop (i + n1 + 1)).take n2 }) := by unfold frR; rw [if_neg p2]
          rw [e]
          rw [show ([35] : Bs).isPrefixOf (t.drop (i + n1 + 1 + n2)) = false by rw [← Bool.not_eq_true, List.isPrefixOf_iff_prefix]; exact p2] at hq2
          repeat' (first | (first | refine Ya ?_ | refine Yb ?_ | refine Yc ?_ | refine Yd ?_ | refine Ye ?_ | refine Yf ?_ | refine Yg ?_ | refine Yh ?_ | refine Yi ?_ | refine Yj ?_ | refine Yk ?_ | refine Yl ?_ | refine Ym ?_ | refine Yn ?_ | refine Yo ?_ | refine Yp (h := ?_) | refine Yq ?_ | refine Yr ?_ | refine Ys ?_ | refine Zr hc (hk := ?_) | refine Zd hc (hk := ?_) | (refine Zc (ht := fun hb => ?_) (hf := fun hb => ?_) <;> (try simp at hb)) | fail) | (first | refine Zw hc (hf := by first | exact hq1 | exact hq2) (hk := ?_) | refine Zq hc (hf := by first | exact hq1 | exact hq2) (hk := ?_) | refine Zo hc (hk := ?_) | refine Zu hc (hk := ?_) | refine Ze hc (hk := ?_) | refine Zn hc (hk := ?_) | fail) | (first | refine run_callM ([(100000, 100000)]) (h1) hc (by simp; exact Gives.mk) (by simp; exact Gives.mk) (by simp; exact Gives.mk) (by simp; exact Gives.mk) (by simp; exact Gives.mk) rfl (by simp; exact Gives.mk) (by simp; exact Gives.mk) rfl (by simp) (by simp) (by simp; exact Gives.mk) (by simp; exact Gives.mk) ?_ | fail) | (first | refine run_callM ([(100000, 100000)]) (h2) hc (by simp; exact Gives.mk) (by simp; exact Gives.mk) (by simp; exact Gives.mk) (by simp; exact Gives.mk) (by simp; exact Gives.mk) rfl (by simp; exact Gives.mk) (by simp; exact Gives.mk) rfl (by simp) (by simp) (by simp; exact Gives.mk) (by simp; exact Gives.mk) ?_ | fail))
          all_goals try contradiction
          (refine run_leaveM [100000] hc (le_end rfl) (by simp; exact Gives.mk) (by simp; exact Gives.mk) (by first | (simp; done) | (simp; omega)) ?_)
          (first | (simp; done) | (simp; omega))
    · have e : quR t (i + n1) { a with path := (t.drop i).take n1 } = frR t (i + n1) { a with path := (t.drop i).take n1 } := by unfold quR; rw [if_neg p1]
      rw [e]
      rw [show ([63] : Bs).isPrefixOf (t.drop (i + n1)) = false by rw [← Bool.not_eq_true, List.isPrefixOf_iff_prefix]; exact p1] at hq1
      have hq2 := hasPrefix_ok (t.drop (i + n1)) [35]
      by_cases p2 : [35] <+: t.drop (i + n1)
      · have hlt2 := pre_lt p2
        have e : frR t (i + n1) { a with path := (t.drop i).take n1 } = ((rowE [] (t.drop (i + n1 + 1))).2, i + n1 + 1 + (rowE [] (t.drop (i + n1 + 1))).1, { a with path := (t.drop i).take n1, hasF := true, frag := (t.drop (i + n1 + 1)).take (rowE [] (t.drop (i + n1 + 1))).1 }) := by unfold frR; rw [if_pos p2]
        rw [e]
        rw [List.isPrefixOf_iff_prefix.2 p2] at hq2
        have h3 := row_ok t [] (i + n1 + 1) { a with path := (t.drop i).take n1, hasF := true } (by omega) hm
        rcases hx3 : rowE [] (t.drop (i + n1 + 1)) with ⟨n3, b3⟩
        rw [hx3] at h3
        cases b3 <;> repeat' (first | (first | refine Ya ?_ | refine Yb ?_ | refine Yc ?_ | refine Yd ?_ | refine Ye ?_ | refine Yf ?_ | refine Yg ?_ | refine Yh ?_ | refine Yi ?_ | refine Yj ?_ | refine Yk ?_ | refine Yl ?_ | refine Ym ?_ | refine Yn ?_ | refine Yo ?_ | refine Yp (h := ?_) | refine Yq ?_ | refine Yr ?_ | refine Ys ?_ | refine Zr hc (hk := ?_) | refine Zd hc (hk := ?_) | (refine Zc (ht := fun hb => ?_) (hf := fun hb => ?_) <;> (try simp at hb)) | fail) | (first | refine Zw hc (hf := by first | exact hq1 | exact hq2) (hk := ?_) | refine Zq hc (hf := by first | exact hq1 | exact hq2) (hk := ?_) | refine Zo hc (hk := ?_) | refine Zu hc (hk := ?_) | refine Ze hc (hk := ?_) | refine Zn hc (hk := ?_) | fail) | (first | refine run_callM ([(100000, 100000)]) (h1) hc (by simp; exact Gives.mk) (by simp; exact Gives.mk) (by simp; exact Gives.mk) (by simp; exact Gives.mk) (by simp; exact Gives.mk) rfl (by simp; exact Gives.mk) (by simp; exact Gives.mk) rfl (by simp) (by simp) (by simp; exact Gives.mk) (by simp; exact Gives.mk) ?_ | fail) | (first | refine run_callM ([(100000, 100000)]) (h3) hc (by simp; exact Gives.mk) (by simp; exact Gives.mk) (by simp; exact Gives.mk) (by simp; exact Gives.mk) (by simp; exact Gives.mk) rfl (by simp; exact Gives.mk) (by simp; exact Gives.mk) rfl (by simp) (by simp) (by simp; exact Gives.mk) (by simp; exact Gives.mk) ?_ | fail))
        all_goals try contradiction
        all_goals (refine run_leaveM [100000] hc (le_end rfl) (by simp; exact Gives.mk) (by simp; exact Gives.mk) (by first | (simp; done) | (simp; omega)) ?_)
        all_goals (first | (simp; done) | (simp; omega))
      · have e : frR t (i + n1) { a with path := (t.drop i).take n1 } = (true, i + n1, { a with path := (t.drop i).take n1 }) := by unfold frR; rw [if_neg p2]
        rw [e]
        rw [show ([35] : Bs).isPrefixOf (t.drop (i + n1)) = false by rw [← Bool.not_eq_true, List.isPrefixOf_iff_prefix]; exact p2] at hq2
        repeat' (first | (first | refine Ya ?_ | refine Yb ?_ | refine Yc ?_ | refine Yd ?_ | refine Ye ?_ | refine Yf ?_ | refine Yg ?_ | refine Yh ?_ | refine Yi ?_ | refine Yj ?_ | refine Yk ?_ | refine Yl ?_ | refine Ym ?_ | refine Yn ?_ | refine Yo ?_ | refine Yp (h := ?_) | refine Yq ?_ | refine Yr ?_ | refine Ys ?_ | refine Zr hc (hk := ?_) | refine Zd hc (hk := ?_) | (refine Zc (ht := fun hb => ?_) (hf := fun hb => ?_) <;> (try simp at hb)) | fail) | (first | refine Zw hc (hf := by first | exact hq1 | exact hq2) (hk := ?_) | refine Zq hc (hf := by first | exact hq1 | exact hq2) (hk := ?_) | refine Zo hc (hk := ?_) | refine Zu hc (hk := ?_) | refine Ze hc (hk := ?_) | refine Zn hc (hk := ?_) | fail) | (first | refine run_callM ([(100000, 100000)]) (h1) hc (by simp; exact Gives.mk) (by simp; exact Gives.mk) (by simp; exact Gives.mk) (by simp; exact Gives.mk) (by simp; exact Gives.mk) rfl (by simp; exact Gives.mk) (by simp; exact Gives.mk) rfl (by simp) (by simp) (by simp; exact Gives.mk) (by simp; exact Gives.mk) ?_ | fail))
        all_goals try contradiction
        (refine run_leaveM [100000] hc (le_end rfl) (by simp; exact Gives.mk) (by simp; exact Gives.mk) (by first | (simp; done) | (simp; omega)) ?_)
        (first | (simp; done) | (simp; omega))
end Go.Proofs.YtpmfmjgnhdfakaaGreatDoor
/-
  ADDRESS: the reader's host and port. (WITH run_drawN.)
-/
set_option linter.unusedSimpArgs false
set_option linter.unusedVariables false
namespace Go.Proofs.YtpmfmjgnhdfakaaGreatDoor
open Go.Lw Go.RowKit
set_option maxRecDepth 100000
set_option maxHeartbeats 1000000

theorem tw_take (p : UInt8 → Bool) (l : Bs) : l.take (l.takeWhile p).length = l.takeWhile p := (List.prefix_iff_eq_take.1 (List.takeWhile_prefix p)).symm
theorem skip_cut (p : UInt8 → Bool) (t : Bs) (i : Nat) : (t.take (skip p t i)).drop i = (t.drop i).takeWhile p := by
  unfold skip
  rw [cut_eq, tw_take]
theorem endP_iff (t : Bs) (k : Nat) (hk : k ≤ t.length) : endP (t.drop k) ↔ (k = t.length ∨ 0 ≤ Lib.indexByte [47, 63, 35] (t[k]?.getD 0)) := by
  rcases Nat.lt_or_ge k t.length with h | h
  · rw [drop_get t k h]
    have hh := has_iff [47, 63, 35] (t[k]?.getD 0)
    constructor
    · rintro (e | ⟨c, r, e, hc⟩)
      · cases e
      · cases e; exact .inr (hh.1 hc)
    · rintro (e | e)
      · omega
      · exact .inr ⟨_, _, rfl, hh.2 e⟩
  · rw [List.drop_of_length_le h]
    exact ⟨fun _ => .inl (by omega), fun _ => .inl rfl⟩
theorem end_bool (t : Bs) (k : Nat) (x : Int) (hx : x = k) (hk : k ≤ t.length) : (x == (t.length : Int) || decide (0 ≤ Lib.indexByte [47, 63, 35] (t[k]?.getD 0))) = decide (endP (t.drop k)) := by
  rw [Bool.eq_iff_iff, decide_eq_true_iff, endP_iff t k hk]
  subst hx
  simp
  omega
theorem place_ok (t : Bs) (i : Nat) (a : Adr) (hi : i ≤ t.length) (hm : t.length ≤ 4611686018427387904) :
    FnMem Tryz.prog 27 [.bp 100000 0] (rdr t i a) (.d (tru (plR t i a).1)) (rdr t (((plR t i a).2.1 : Nat) : Int) (plR t i a).2.2) := by
  refine fnMem Tryz.func27 rfl (by kernel_rfl) Tryz.ntmps27 _ rfl (by simp) fun C hc => ?_
  have hE := hostEnd_ok (t.drop i) (by simp; omega)
  have hcut := skip_cut hostB t i
  have hsl := skip_le hostB t i hi
  have hsk : i + ((t.drop i).takeWhile hostB).length = skip hostB t i := rfl
  have hH := isHost_ok ((t.drop i).takeWhile hostB) (by omega)
  unfold plR
  generalize hn : ((t.drop i).takeWhile hostB).length = n at hE hsk
  rw [← hsk] at hcut hsl ⊢
  have eT : ((i : Int) + (n : Int)).toNat = i + n := by omega
  repeat' (first | (first | refine Ya ?_ | refine Yb ?_ | refine Yc ?_ | refine Yd ?_ | refine Ye ?_ | refine Yf ?_ | refine Yg ?_ | refine Yh ?_ | refine Yi ?_ | refine Yj ?_ | refine Yk ?_ | refine Yl ?_ | refine Ym ?_ | refine Yn ?_ | refine Yo ?_ | refine Yp (h := ?_) | refine Yq ?_ | refine Yr ?_ | refine Ys ?_ | refine Zr hc (hk := ?_) | refine Zd hc (hk := ?_) | (refine Zc (ht := fun hb => ?_) (hf := fun hb => ?_) <;> (try simp at hb)) | fail) | (first | refine Zw hc (hf := by exact hE) (hk := ?_) | refine Zq hc (hf := by exact hE) (hk := ?_) | refine Zo hc (hk := ?_) | refine Zu hc (hk := ?_) | refine Ze hc (hk := ?_) | refine Zn hc (hk := ?_) | fail))
  (refine run_drawT 16 hc (by kernel_rfl) (by kernel_rfl) ?_; try simp only [List.take_succ_cons, List.take_zero, List.drop_succ_cons, List.drop_zero])
  repeat' (first | (first | refine Ya ?_ | refine Yb ?_ | refine Yc ?_ | refine Yd ?_ | refine Ye ?_ | refine Yf ?_ | refine Yg ?_ | refine Yh ?_ | refine Yi ?_ | refine Yj ?_ | refine Yk ?_ | refine Yl ?_ | refine Ym ?_ | refine Yn ?_ | refine Yo ?_ | refine Yp (h := ?_) | refine Yq ?_ | refine Yr ?_ | refine Ys ?_ | refine Zr hc (hk := ?_) | refine Zd hc (hk := ?_) | (refine Zc (ht := fun hb => ?_) (hf := fun hb => ?_) <;> (try simp at hb)) | fail) | (first | refine Zo hc (hk := ?_) | refine Zu hc (hk := ?_) | refine Ze hc (hk := ?_) | refine Zn hc (hk := ?_) | fail))
  rw [hcut]
  generalize hh : (t.drop i).takeWhile hostB = h at hH hn hcut
  cases hI : isHostB h with
  | false =>
    rw [hI] at hH
    rw [if_neg (by decide)]
    repeat' (first | (first | refine Ya ?_ | refine Yb ?_ | refine Yc ?_ | refine Yd ?_ | refine Ye ?_ | refine Yf ?_ | refine Yg ?_ | refine Yh ?_ | refine Yi ?_ | refine Yj ?_ | refine Yk ?_ | refine Yl ?_ | refine Ym ?_ | refine Yn ?_ | refine Yo ?_ | refine Yp (h := ?_) | refine Yq ?_ | refine Yr ?_ | refine Ys ?_ | refine Zr hc (hk := ?_) | refine Zd hc (hk := ?_) | (refine Zc (ht := fun hb => ?_) (hf := fun hb => ?_) <;> (try simp at hb)) | fail) | (first | refine Zw hc (hf := by exact hH) (hk := ?_) | refine Zq hc (hf := by exact hH) (hk := ?_) | refine Zo hc (hk := ?_) | refine Zu hc (hk := ?_) | refine Ze hc (hk := ?_) | refine Zn hc (hk := ?_) | fail))
    all_goals try contradiction
    (refine run_leaveM [100000] hc (le_end rfl) (by simp; exact Gives.mk) (by simp; exact Gives.mk) (by first | (simp; done) | (simp; omega)) ?_)
    (first | (simp; done) | (simp; omega))
  | true =>
    rw [hI] at hH
    rw [if_pos rfl]
    have hq := hasPrefix_ok (t.drop (i + n)) [58]
    by_cases p1 : [58] <+: t.drop (i + n)
    · rw [List.isPrefixOf_iff_prefix.2 p1] at hq
      rw [if_pos p1]
      have hlt := pre_lt p1
      repeat' (first | (first | refine Ya ?_ | refine Yb ?_ | refine Yc ?_ | refine Yd ?_ | refine Ye ?_ | refine Yf ?_ | refine Yg ?_ | refine Yh ?_ | refine Yi ?_ | refine Yj ?_ | refine Yk ?_ | refine Yl ?_ | refine Ym ?_ | refine Yn ?_ | refine Yo ?_ | refine Yp (h := ?_) | refine Yq ?_ | refine Yr ?_ | refine Ys ?_ | refine Zr hc (hk := ?_) | refine Zd hc (hk := ?_) | (refine Zc (ht := fun hb => ?_) (hf := fun hb => ?_) <;> (try simp at hb)) | fail) | (first | refine Zw hc (hf := by first | exact hH | exact hq) (hk := ?_) | refine Zq hc (hf := by first | exact hH | exact hq) (hk := ?_) | refine Zo hc (hk := ?_) | refine Zu hc (hk := ?_) | refine Ze hc (hk := ?_) | refine Zn hc (hk := ?_) | fail))
      all_goals try contradiction
      have eT2 : ((i : Int) + (n : Int) + 1).toNat = i + n + 1 := by omega
      refine ewp_loop (fun j : Nat => ⟨[(0, .bp 100000 0), (4, .d (int j))], rdr t ((i : Int) + n + 1) { a with host := h }⟩) (fun j => i + n + 1 ≤ j ∧ j ≤ t.length ∧ skip isDig t (i + n + 1) = skip isDig t j) (fun j => t.length - j) (i + n + 1) (by simp; omega) (run_keep [0, 4] [100000] (by simp; exact Gives.mk) (by simp; exact Gives.mk)) ?_
      rintro j ⟨h1, h2, h3⟩
      have hs := fun h => skip_step isDig t j h
      have hend := fun h => skip_end isDig t j h
      have hdg := adDigit_ok (t[j]?.getD 0)
      repeat' (first | (first | refine Ya ?_ | refine Yb ?_ | refine Yc ?_ | refine Yd ?_ | refine Ye ?_ | refine Yf ?_ | refine Yg ?_ | refine Yh ?_ | refine Yi ?_ | refine Yj ?_ | refine Yk ?_ | refine Yl ?_ | refine Ym ?_ | refine Yn ?_ | refine Yo ?_ | refine Yp (h := ?_) | refine Yq ?_ | refine Yr ?_ | refine Ys ?_ | refine Zr hc (hk := ?_) | refine Zd hc (hk := ?_) | (refine Zc (ht := fun hb => ?_) (hf := fun hb => ?_) <;> (try simp at hb)) | fail) | (first | refine Zw hc (hf := by exact hdg) (hk := ?_) | refine Zq hc (hf := by exact hdg) (hk := ?_) | refine Zo hc (hk := ?_) | refine Zu hc (hk := ?_) | refine Ze hc (hk := ?_) | refine Zn hc (hk := ?_) | fail))
      · refine ⟨j + 1, ⟨by omega, by omega, ?_⟩, by omega, run_back [0, 4] [100000] (by simp; exact Gives.mk) (by simp; exact Gives.mk) (by simp)⟩
        rw [h3, hs hb.1, if_pos hb.2]
      · have e : skip isDig t (i + n + 1) = j := by
          rw [h3]
          by_cases hj : j < t.length
          · rw [hs hj, if_neg (by rw [hb hj]; decide)]
          · exact hend (by omega)
        rw [e]
        have hcut2 := skip_cut isDig t (i + n + 1)
        rw [e] at hcut2
        have hP := portOf_ok ((t.drop (i + n + 1)).takeWhile isDig) (by rw [← hcut2]; simp; omega)
        have he := endP_iff t j h2
        have hib := indexByte_ok [47, 63, 35] (t[j]?.getD 0)
        (refine run_drawT 11 hc (by kernel_rfl) (by kernel_rfl) ?_; try simp only [List.take_succ_cons, List.take_zero, List.drop_succ_cons, List.drop_zero])
        repeat' (first | (first | refine Ya ?_ | refine Yb ?_ | refine Yc ?_ | refine Yd ?_ | refine Ye ?_ | refine Yf ?_ | refine Yg ?_ | refine Yh ?_ | refine Yi ?_ | refine Yj ?_ | refine Yk ?_ | refine Yl ?_ | refine Ym ?_ | refine Yn ?_ | refine Yo ?_ | refine Yp (h := ?_) | refine Yq ?_ | refine Yr ?_ | refine Ys ?_ | refine Zr hc (hk := ?_) | refine Zd hc (hk := ?_) | (refine Zc (ht := fun hb => ?_) (hf := fun hb => ?_) <;> (try simp at hb)) | fail) | (first | refine Zo hc (hk := ?_) | refine Zu hc (hk := ?_) | refine Ze hc (hk := ?_) | refine Zn hc (hk := ?_) | fail))
        rw [eT2, hcut2]
        generalize (t.drop (i + n + 1)).takeWhile isDig = q at hP hcut2
        by_cases hz : portB q = 0
        · rw [hz] at hP
          rw [if_pos hz]
          repeat' (first | (first | refine Ya ?_ | refine Yb ?_ | refine Yc ?_ | refine Yd ?_ | refine Ye ?_ | refine Yf ?_ | refine Yg ?_ | refine Yh ?_ | refine Yi ?_ | refine Yj ?_ | refine Yk ?_ | refine Yl ?_ | refine Ym ?_ | refine Yn ?_ | refine Yo ?_ | refine Yp (h := ?_) | refine Yq ?_ | refine Yr ?_ | refine Ys ?_ | refine Zr hc (hk := ?_) | refine Zd hc (hk := ?_) | (refine Zc (ht := fun hb => ?_) (hf := fun hb => ?_) <;> (try simp at hb)) | fail) | (first | refine Zw hc (hf := by exact hP) (hk := ?_) | refine Zq hc (hf := by exact hP) (hk := ?_) | refine Zo hc (hk := ?_) | refine Zu hc (hk := ?_) | refine Ze hc (hk := ?_) | refine Zn hc (hk := ?_) | fail))
          all_goals try contradiction
          (refine run_leaveM [100000] hc (le_end rfl) (by simp; exact Gives.mk) (by simp; exact Gives.mk) (by first | (simp; done) | (simp; omega)) ?_)
          (first | (simp; done) | (simp; omega))
        · rw [if_neg hz]
          repeat' (first | (first | refine Ya ?_ | refine Yb ?_ | refine Yc ?_ | refine Yd ?_ | refine Ye ?_ | refine Yf ?_ | refine Yg ?_ | refine Yh ?_ | refine Yi ?_ | refine Yj ?_ | refine Yk ?_ | refine Yl ?_ | refine Ym ?_ | refine Yn ?_ | refine Yo ?_ | refine Yp (h := ?_) | refine Yq ?_ | refine Yr ?_ | refine Ys ?_ | refine Zr hc (hk := ?_) | refine Zd hc (hk := ?_) | (refine Zc (ht := fun hb => ?_) (hf := fun hb => ?_) <;> (try simp at hb)) | fail) | (first | refine Zw hc (hf := by first | exact hP | exact hib) (hk := ?_) | refine Zq hc (hf := by first | exact hP | exact hib) (hk := ?_) | refine Zo hc (hk := ?_) | refine Zu hc (hk := ?_) | refine Ze hc (hk := ?_) | refine Zn hc (hk := ?_) | fail))
          · exact absurd hb hz
          rw [end_bool t j j rfl h2]
          (refine run_leaveM [100000] hc (le_end rfl) (by simp; exact Gives.mk) (by simp; exact Gives.mk) (by first | (simp; done) | (simp; omega)) ?_)
          (first | (simp; done) | (simp; omega))
    · rw [show ([58] : Bs).isPrefixOf (t.drop (i + n)) = false by rw [← Bool.not_eq_true, List.isPrefixOf_iff_prefix]; exact p1] at hq
      rw [if_neg p1]
      have he := endP_iff t (i + n) hsl
      have hib := indexByte_ok [47, 63, 35] (t[i + n]?.getD 0)
      repeat' (first | (first | refine Ya ?_ | refine Yb ?_ | refine Yc ?_ | refine Yd ?_ | refine Ye ?_ | refine Yf ?_ | refine Yg ?_ | refine Yh ?_ | refine Yi ?_ | refine Yj ?_ | refine Yk ?_ | refine Yl ?_ | refine Ym ?_ | refine Yn ?_ | refine Yo ?_ | refine Yp (h := ?_) | refine Yq ?_ | refine Yr ?_ | refine Ys ?_ | refine Zr hc (hk := ?_) | refine Zd hc (hk := ?_) | (refine Zc (ht := fun hb => ?_) (hf := fun hb => ?_) <;> (try simp at hb)) | fail) | (first | refine Zw hc (hf := by first | exact hH | exact hq | exact hib) (hk := ?_) | refine Zq hc (hf := by first | exact hH | exact hq | exact hib) (hk := ?_) | refine Zo hc (hk := ?_) | refine Zu hc (hk := ?_) | refine Ze hc (hk := ?_) | refine Zn hc (hk := ?_) | fail))
      all_goals try contradiction
      rw [end_bool t (i + n) ((i : Int) + n) (by omega) hsl]
      (refine run_leaveM [100000] hc (le_end rfl) (by simp; exact Gives.mk) (by simp; exact Gives.mk) (by first | (simp; done) | (simp; omega)) ?_)
      (first | (simp; done) | (simp; omega))
end Go.Proofs.YtpmfmjgnhdfakaaGreatDoor
/-
  ADDRESS: Read. (WITH run_drawN.)
-/
set_option linter.unusedSimpArgs false
set_option linter.unusedVariables false
namespace Go.Proofs.YtpmfmjgnhdfakaaGreatDoor
open Go.Lw Go.RowKit
set_option maxRecDepth 100000
set_option maxHeartbeats 1000000

abbrev adrL (a : Adr) : List D := [str a.scheme, str a.host, str a.port, str a.path, str a.query, tru a.hasQ, str a.frag, tru a.hasF]
abbrev adrD (a : Adr) : D := .agg (adrL a)
@[simp] def readD (x : Adr × Nat × Nat) : D := .tup [adrD x.1, int x.2.1, int x.2.2]
theorem plR_le (t : Bs) (i : Nat) (a : Adr) (hi : i ≤ t.length) : (plR t i a).2.1 ≤ t.length := by
  have h1 := skip_le hostB t i hi
  unfold plR
  split
  · split
    · rename_i h2
      have := pre_lt h2
      have h3 := skip_le isDig t (skip hostB t i + 1) (by omega)
      split
      · simp only; omega
      · simp only; omega
    · exact h1
  · exact hi
theorem pmatch_len : ∀ w t : Bs, pmatch w t ≤ t.length
  | [], t => by simp [pmatch]
  | a :: w, [] => by simp [pmatch]
  | a :: w, b :: t => by
    have := pmatch_len w t
    simp only [pmatch]
    split <;> simp <;> omega
theorem schemeP_le {t s : Bs} {n : Nat} (h : schemeP t = .ok (s, n)) : n ≤ t.length := by
  have h1 := pmatch_len httpW t
  have h2 := pmatch_len httpsW t
  unfold schemeP at h
  split at h
  · cases h; omega
  · split at h
    · cases h; omega
    · cases h
theorem read_ok (t : Bs) (hm : t.length ≤ 9223372036854775807) : FnOk Tryz.prog 8 [str t] (readD (readC t)) := by
  refine fnOk Tryz.func8 rfl (by kernel_rfl) Tryz.ntmps8 _ rfl (by simp) fun C hc => ?_
  by_cases hl : t.length ≤ 2000
  rotate_left
  · have e : readC t = (Adr.zero, 0, 2) := by unfold readC; rw [if_pos (by omega)]
    rw [e]
    repeat' (first | (first | refine Ya ?_ | refine Yb ?_ | refine Yc ?_ | refine Yd ?_ | refine Ye ?_ | refine Yf ?_ | refine Yg ?_ | refine Yh ?_ | refine Yi ?_ | refine Yj ?_ | refine Yk ?_ | refine Yl ?_ | refine Ym ?_ | refine Yn ?_ | refine Yo ?_ | refine Yp (h := ?_) | refine Yq ?_ | refine Yr ?_ | refine Ys ?_ | refine Zr hc (hk := ?_) | refine Zd hc (hk := ?_) | (refine Zc (ht := fun hb => ?_) (hf := fun hb => ?_) <;> (try simp at hb)) | fail) | (first | refine Zo hc (hk := ?_) | refine Zu hc (hk := ?_) | refine Ze hc (hk := ?_) | refine Zn hc (hk := ?_) | fail))
    · (refine Zl hc (hr := ?_))
      simp
    · exfalso; omega
  have hS := scheme_ok t (by omega)
  unfold schD at hS
  rcases hx : schemeP t with k | ⟨s, n⟩
  · have e : readC t = (Adr.zero, k, 10) := by
      unfold readC readP; rw [if_neg (by omega), hx]
    rw [hx] at hS
    rw [e]
    repeat' (first | (first | refine Ya ?_ | refine Yb ?_ | refine Yc ?_ | refine Yd ?_ | refine Ye ?_ | refine Yf ?_ | refine Yg ?_ | refine Yh ?_ | refine Yi ?_ | refine Yj ?_ | refine Yk ?_ | refine Yl ?_ | refine Ym ?_ | refine Yn ?_ | refine Yo ?_ | refine Yp (h := ?_) | refine Yq ?_ | refine Yr ?_ | refine Ys ?_ | refine Zr hc (hk := ?_) | refine Zd hc (hk := ?_) | (refine Zc (ht := fun hb => ?_) (hf := fun hb => ?_) <;> (try simp at hb)) | fail) | (first | refine Zw hc (hf := by exact hS) (hk := ?_) | refine Zq hc (hf := by exact hS) (hk := ?_) | refine Zo hc (hk := ?_) | refine Zu hc (hk := ?_) | refine Ze hc (hk := ?_) | refine Zn hc (hk := ?_) | fail))
    · exfalso; omega
    all_goals try contradiction
    (refine Zl hc (hr := ?_))
    simp
  · rw [hx] at hS
    have hn := schemeP_le hx
    have hR := readR_P t s n hx
    have hP := place_ok t n { Adr.zero with scheme := s } hn (by omega)
    have hk := plR_le t n { Adr.zero with scheme := s } hn
    rcases hpl : plR t n { Adr.zero with scheme := s } with ⟨b1, k1, a1⟩
    rw [hpl] at hR hP hk
    simp only at hR hP hk
    cases b1 with
    | false =>
      have e : readC t = (Adr.zero, k1, 10) := by unfold readC; rw [if_neg (by omega), hR]; rfl
      rw [e]
      repeat' (first | (first | refine Ya ?_ | refine Yb ?_ | refine Yc ?_ | refine Yd ?_ | refine Ye ?_ | refine Yf ?_ | refine Yg ?_ | refine Yh ?_ | refine Yi ?_ | refine Yj ?_ | refine Yk ?_ | refine Yl ?_ | refine Ym ?_ | refine Yn ?_ | refine Yo ?_ | refine Yp (h := ?_) | refine Yq ?_ | refine Yr ?_ | refine Ys ?_ | refine Zr hc (hk := ?_) | refine Zd hc (hk := ?_) | (refine Zc (ht := fun hb => ?_) (hf := fun hb => ?_) <;> (try simp at hb)) | fail) | (first | refine Zw hc (hf := by exact hS) (hk := ?_) | refine Zq hc (hf := by exact hS) (hk := ?_) | refine Zo hc (hk := ?_) | refine Zu hc (hk := ?_) | refine Ze hc (hk := ?_) | refine Zn hc (hk := ?_) | fail) | (first | refine run_callM ([(100000, 26)]) (hP) hc (by simp; exact Gives.mk) (by simp; exact Gives.mk) (by simp; exact Gives.mk) (by simp; exact Gives.mk) (by simp; exact Gives.mk) rfl (by simp; exact Gives.mk) (by simp; exact Gives.mk) rfl (by simp) (by simp) (by simp; exact Gives.mk) (by simp; exact Gives.mk) ?_ | fail) | (first | refine run_skip hc (by simp; exact Gives.mk) (by simp) ?_ | fail))
      · exfalso; omega
      all_goals try contradiction
      (apply run_drawAny 8 hc (by kernel_rfl) rfl; (focus (refine run_anyP 0 hc rfl (by kernel_rfl) rfl (by simp; exact Gives.mk) (by first | exact True.intro | omega | (simp; done) | (simp; omega) | (simp at *; omega)) (by simp) (by simp) (by simp; exact Gives.mk) ?_; refine run_anyM 1 hc rfl (by kernel_rfl) rfl (by first | exact .inl rfl | exact .inr rfl) (by simp; exact Gives.mk) (by simp) (by simp; exact Gives.mk) ?_; refine run_anyP 2 hc rfl (by kernel_rfl) rfl (by simp; exact Gives.mk) (by first | exact True.intro | omega | (simp; done) | (simp; omega) | (simp at *; omega)) (by simp) (by simp) (by simp; exact Gives.mk) ?_; refine run_anyP 3 hc rfl (by kernel_rfl) rfl (by simp; exact Gives.mk) (by first | exact True.intro | omega | (simp; done) | (simp; omega) | (simp at *; omega)) (by simp) (by simp) (by simp; exact Gives.mk) ?_; refine anyW_all [4, 5] (by kernel_rfl) rfl ?_; refine ⟨?_, ?_⟩; (focus (refine run_stepW hc rfl (by simp; exact Ends.go) (by first | exact True.intro | omega | (simp; done) | (simp; omega) | (simp at *; omega)) ?_; refine anyW_all [5] (by kernel_rfl) rfl ?_; (focus (refine run_stepW hc rfl (by simp; exact Ends.go) (by first | exact True.intro | omega | (simp; done) | (simp; omega) | (simp at *; omega)) ?_; refine run_anyM 6 hc rfl (by kernel_rfl) rfl (by first | exact .inl rfl | exact .inr rfl) (by simp; exact Gives.mk) (by simp) (by simp; exact Gives.mk) ?_; refine run_anyM 7 hc rfl (by kernel_rfl) rfl (by first | exact .inl rfl | exact .inr rfl) (by simp; exact Gives.mk) (by simp) (by simp; exact Gives.mk) ?_; refine anyW_done (by kernel_rfl) ?_; exact run_keep [2, 3, 4] [2] (by simp; try exact Gives.mk) (by simp; try exact Gives.mk))))); (focus (refine run_stepW hc rfl (by simp; exact Ends.go) (by first | exact True.intro | omega | (simp; done) | (simp; omega) | (simp at *; omega)) ?_; refine anyW_all [4] (by kernel_rfl) rfl ?_; (focus (refine run_stepW hc rfl (by simp; exact Ends.go) (by first | exact True.intro | omega | (simp; done) | (simp; omega) | (simp at *; omega)) ?_; refine run_anyM 6 hc rfl (by kernel_rfl) rfl (by first | exact .inl rfl | exact .inr rfl) (by simp; exact Gives.mk) (by simp) (by simp; exact Gives.mk) ?_; refine run_anyM 7 hc rfl (by kernel_rfl) rfl (by first | exact .inl rfl | exact .inr rfl) (by simp; exact Gives.mk) (by simp) (by simp; exact Gives.mk) ?_; refine anyW_done (by kernel_rfl) ?_; exact run_back [2, 3, 4] [2] (by simp; exact Gives.mk) (by simp; exact Gives.mk) (by simp))))))))
      repeat' (first | (first | refine Ya ?_ | refine Yb ?_ | refine Yc ?_ | refine Yd ?_ | refine Ye ?_ | refine Yf ?_ | refine Yg ?_ | refine Yh ?_ | refine Yi ?_ | refine Yj ?_ | refine Yk ?_ | refine Yl ?_ | refine Ym ?_ | refine Yn ?_ | refine Yo ?_ | refine Yp (h := ?_) | refine Yq ?_ | refine Yr ?_ | refine Ys ?_ | refine Zr hc (hk := ?_) | refine Zd hc (hk := ?_) | (refine Zc (ht := fun hb => ?_) (hf := fun hb => ?_) <;> (try simp at hb)) | fail) | (first | refine Zo hc (hk := ?_) | refine Zu hc (hk := ?_) | refine Ze hc (hk := ?_) | refine Zn hc (hk := ?_) | fail))
      (refine Zl hc (hr := ?_))
      simp
    | true =>
      have hQ := rest_ok t k1 a1 hk (by omega)
      rcases hre : reR t k1 a1 with ⟨b2, k2, a2⟩
      rw [hre] at hR hQ
      simp only at hR hQ
      cases b2 with
      | false =>
        have e : readC t = (Adr.zero, k2, 10) := by unfold readC; rw [if_neg (by omega), hR]; rfl
        rw [e]
        repeat' (first | (first | refine Ya ?_ | refine Yb ?_ | refine Yc ?_ | refine Yd ?_ | refine Ye ?_ | refine Yf ?_ | refine Yg ?_ | refine Yh ?_ | refine Yi ?_ | refine Yj ?_ | refine Yk ?_ | refine Yl ?_ | refine Ym ?_ | refine Yn ?_ | refine Yo ?_ | refine Yp (h := ?_) | refine Yq ?_ | refine Yr ?_ | refine Ys ?_ | refine Zr hc (hk := ?_) | refine Zd hc (hk := ?_) | (refine Zc (ht := fun hb => ?_) (hf := fun hb => ?_) <;> (try simp at hb)) | fail) | (first | refine Zw hc (hf := by exact hS) (hk := ?_) | refine Zq hc (hf := by exact hS) (hk := ?_) | refine Zo hc (hk := ?_) | refine Zu hc (hk := ?_) | refine Ze hc (hk := ?_) | refine Zn hc (hk := ?_) | fail) | (first | refine run_callM ([(100000, 26)]) (hP) hc (by simp; exact Gives.mk) (by simp; exact Gives.mk) (by simp; exact Gives.mk) (by simp; exact Gives.mk) (by simp; exact Gives.mk) rfl (by simp; exact Gives.mk) (by simp; exact Gives.mk) rfl (by simp) (by simp) (by simp; exact Gives.mk) (by simp; exact Gives.mk) ?_ | fail) | (first | refine run_callM ([(100000, 26)]) (hQ) hc (by simp; exact Gives.mk) (by simp; exact Gives.mk) (by simp; exact Gives.mk) (by simp; exact Gives.mk) (by simp; exact Gives.mk) rfl (by simp; exact Gives.mk) (by simp; exact Gives.mk) rfl (by simp) (by simp) (by simp; exact Gives.mk) (by simp; exact Gives.mk) ?_ | fail))
        · exfalso; omega
        all_goals try contradiction
        (apply run_drawAny 8 hc (by kernel_rfl) rfl; (focus (refine run_anyP 0 hc rfl (by kernel_rfl) rfl (by simp; exact Gives.mk) (by first | exact True.intro | omega | (simp; done) | (simp; omega) | (simp at *; omega)) (by simp) (by simp) (by simp; exact Gives.mk) ?_; refine run_anyM 1 hc rfl (by kernel_rfl) rfl (by first | exact .inl rfl | exact .inr rfl) (by simp; exact Gives.mk) (by simp) (by simp; exact Gives.mk) ?_; refine run_anyP 2 hc rfl (by kernel_rfl) rfl (by simp; exact Gives.mk) (by first | exact True.intro | omega | (simp; done) | (simp; omega) | (simp at *; omega)) (by simp) (by simp) (by simp; exact Gives.mk) ?_; refine run_anyP 3 hc rfl (by kernel_rfl) rfl (by simp; exact Gives.mk) (by first | exact True.intro | omega | (simp; done) | (simp; omega) | (simp at *; omega)) (by simp) (by simp) (by simp; exact Gives.mk) ?_; refine anyW_all [4, 5] (by kernel_rfl) rfl ?_; refine ⟨?_, ?_⟩; (focus (refine run_stepW hc rfl (by simp; exact Ends.go) (by first | exact True.intro | omega | (simp; done) | (simp; omega) | (simp at *; omega)) ?_; refine anyW_all [5] (by kernel_rfl) rfl ?_; (focus (refine run_stepW hc rfl (by simp; exact Ends.go) (by first | exact True.intro | omega | (simp; done) | (simp; omega) | (simp at *; omega)) ?_; refine run_anyM 6 hc rfl (by kernel_rfl) rfl (by first | exact .inl rfl | exact .inr rfl) (by simp; exact Gives.mk) (by simp) (by simp; exact Gives.mk) ?_; refine run_anyM 7 hc rfl (by kernel_rfl) rfl (by first | exact .inl rfl | exact .inr rfl) (by simp; exact Gives.mk) (by simp) (by simp; exact Gives.mk) ?_; refine anyW_done (by kernel_rfl) ?_; exact run_keep [2, 3, 4] [2] (by simp; try exact Gives.mk) (by simp; try exact Gives.mk))))); (focus (refine run_stepW hc rfl (by simp; exact Ends.go) (by first | exact True.intro | omega | (simp; done) | (simp; omega) | (simp at *; omega)) ?_; refine anyW_all [4] (by kernel_rfl) rfl ?_; (focus (refine run_stepW hc rfl (by simp; exact Ends.go) (by first | exact True.intro | omega | (simp; done) | (simp; omega) | (simp at *; omega)) ?_; refine run_anyM 6 hc rfl (by kernel_rfl) rfl (by first | exact .inl rfl | exact .inr rfl) (by simp; exact Gives.mk) (by simp) (by simp; exact Gives.mk) ?_; refine run_anyM 7 hc rfl (by kernel_rfl) rfl (by first | exact .inl rfl | exact .inr rfl) (by simp; exact Gives.mk) (by simp) (by simp; exact Gives.mk) ?_; refine anyW_done (by kernel_rfl) ?_; exact run_back [2, 3, 4] [2] (by simp; exact Gives.mk) (by simp; exact Gives.mk) (by simp))))))))
        repeat' (first | (first | refine Ya ?_ | refine Yb ?_ | refine Yc ?_ | refine Yd ?_ | refine Ye ?_ | refine Yf ?_ | refine Yg ?_ | refine Yh ?_ | refine Yi ?_ | refine Yj ?_ | refine Yk ?_ | refine Yl ?_ | refine Ym ?_ | refine Yn ?_ | refine Yo ?_ | refine Yp (h := ?_) | refine Yq ?_ | refine Yr ?_ | refine Ys ?_ | refine Zr hc (hk := ?_) | refine Zd hc (hk := ?_) | (refine Zc (ht := fun hb => ?_) (hf := fun hb => ?_) <;> (try simp at hb)) | fail) | (first | refine Zo hc (hk := ?_) | refine Zu hc (hk := ?_) | refine Ze hc (hk := ?_) | refine Zn hc (hk := ?_) | fail))
        (refine Zl hc (hr := ?_))
        simp
      | true =>
        have e : readC t = (a2, 0, 0) := by unfold readC; rw [if_neg (by omega), hR]; rfl
        rw [e]
        repeat' (first | (first | refine Ya ?_ | refine Yb ?_ | refine Yc ?_ | refine Yd ?_ | refine Ye ?_ | refine Yf ?_ | refine Yg ?_ | refine Yh ?_ | refine Yi ?_ | refine Yj ?_ | refine Yk ?_ | refine Yl ?_ | refine Ym ?_ | refine Yn ?_ | refine Yo ?_ | refine Yp (h := ?_) | refine Yq ?_ | refine Yr ?_ | refine Ys ?_ | refine Zr hc (hk := ?_) | refine Zd hc (hk := ?_) | (refine Zc (ht := fun hb => ?_) (hf := fun hb => ?_) <;> (try simp at hb)) | fail) | (first | refine Zw hc (hf := by exact hS) (hk := ?_) | refine Zq hc (hf := by exact hS) (hk := ?_) | refine Zo hc (hk := ?_) | refine Zu hc (hk := ?_) | refine Ze hc (hk := ?_) | refine Zn hc (hk := ?_) | fail) | (first | refine run_callM ([(100000, 26)]) (hP) hc (by simp; exact Gives.mk) (by simp; exact Gives.mk) (by simp; exact Gives.mk) (by simp; exact Gives.mk) (by simp; exact Gives.mk) rfl (by simp; exact Gives.mk) (by simp; exact Gives.mk) rfl (by simp) (by simp) (by simp; exact Gives.mk) (by simp; exact Gives.mk) ?_ | fail) | (first | refine run_callM ([(100000, 26)]) (hQ) hc (by simp; exact Gives.mk) (by simp; exact Gives.mk) (by simp; exact Gives.mk) (by simp; exact Gives.mk) (by simp; exact Gives.mk) rfl (by simp; exact Gives.mk) (by simp; exact Gives.mk) rfl (by simp) (by simp) (by simp; exact Gives.mk) (by simp; exact Gives.mk) ?_ | fail))
        · exfalso; omega
        all_goals try contradiction
        (refine Zl hc (hr := ?_))
        simp
end Go.Proofs.YtpmfmjgnhdfakaaGreatDoor
/-
  ADDRESS: write, CheckAddress, Text. (WITH run_drawN.)
-/
set_option linter.unusedSimpArgs false
set_option linter.unusedVariables false
namespace Go.Proofs.YtpmfmjgnhdfakaaGreatDoor
open Go.Lw Go.RowKit
set_option maxRecDepth 100000
set_option maxHeartbeats 1000000

/-- Strings as long as the form lets them be. -/
structure Adr.Fits (a : Adr) : Prop where
  scheme : a.scheme.length ≤ 140737488355327
  host : a.host.length ≤ 140737488355327
  port : a.port.length ≤ 140737488355327
  path : a.path.length ≤ 140737488355327
  query : a.query.length ≤ 140737488355327
  frag : a.frag.length ≤ 140737488355327
theorem behind_ok (a : Adr) (hf : a.Fits) : FnOk Tryz.prog 103 [adrD a] (str (behindA a)) := by
  refine fnOk Tryz.func103 rfl (by kernel_rfl) Tryz.ntmps103 _ rfl (by simp) fun C hc => ?_
  obtain ⟨h1, h2, h3, h4, h5, h6⟩ := hf
  repeat' (first | (first | refine Ya ?_ | refine Yb ?_ | refine Yc ?_ | refine Yd ?_ | refine Ye ?_ | refine Yf ?_ | refine Yg ?_ | refine Yh ?_ | refine Yi ?_ | refine Yj ?_ | refine Yk ?_ | refine Yl ?_ | refine Ym ?_ | refine Yn ?_ | refine Yo ?_ | refine Yp (h := ?_) | refine Yq ?_ | refine Yr ?_ | refine Ys ?_ | refine Zr hc (hk := ?_) | refine Zd hc (hk := ?_) | (refine Zc (ht := fun hb => ?_) (hf := fun hb => ?_) <;> (try simp at hb)) | fail) | (first | refine Zo hc (hk := ?_) | refine Zu hc (hk := ?_) | refine Ze hc (hk := ?_) | refine Zn hc (hk := ?_) | fail))
  all_goals rename_i hq
  all_goals (refine Zl hc (hr := ?_))
  all_goals simp [behindA, qPart, fPart, hb, hq]
theorem behind_len (a : Adr) (hf : a.Fits) : (behindA a).length ≤ 422212465065984 + 2 := by
  obtain ⟨h1, h2, h3, h4, h5, h6⟩ := hf
  unfold behindA qPart fPart
  split <;> split <;> simp <;> omega
theorem write_ok (a : Adr) (hf : a.Fits) : FnOk Tryz.prog 53 [adrD a] (str (writeA a)) := by
  refine fnOk Tryz.func53 rfl (by kernel_rfl) Tryz.ntmps53 _ rfl (by simp) fun C hc => ?_
  have hB := behind_ok a hf
  have hl := behind_len a hf
  obtain ⟨h1, h2, h3, h4, h5, h6⟩ := hf
  repeat' (first | (first | refine Ya ?_ | refine Yb ?_ | refine Yc ?_ | refine Yd ?_ | refine Ye ?_ | refine Yf ?_ | refine Yg ?_ | refine Yh ?_ | refine Yi ?_ | refine Yj ?_ | refine Yk ?_ | refine Yl ?_ | refine Ym ?_ | refine Yn ?_ | refine Yo ?_ | refine Yp (h := ?_) | refine Yq ?_ | refine Yr ?_ | refine Ys ?_ | refine Zr hc (hk := ?_) | refine Zd hc (hk := ?_) | (refine Zc (ht := fun hb => ?_) (hf := fun hb => ?_) <;> (try simp at hb)) | fail) | (first | refine Zw hc (hf := by exact hB) (hk := ?_) | refine Zq hc (hf := by exact hB) (hk := ?_) | refine Zo hc (hk := ?_) | refine Zu hc (hk := ?_) | refine Ze hc (hk := ?_) | refine Zn hc (hk := ?_) | fail))
  · (refine Zl hc (hr := ?_))
    simp [writeA, pPart, hb]
  · (refine Zl hc (hr := ?_))
    simp [writeA, pPart, hb]
/-! The check. -/
theorem chk_S {a : Adr} (h : chkS a) : chkC a = 10 := by unfold chkC; rw [if_pos h]
theorem chk_R {a : Adr} (h0 : ¬ chkS a) (h : chkR a) : chkC a = 10 := by unfold chkC; rw [if_neg h0, if_pos h]
theorem chk_F {a : Adr} (h0 : ¬ chkS a) (h1 : ¬ chkR a) (h : chkF a) : chkC a = 3 := by unfold chkC; rw [if_neg h0, if_neg h1, if_pos h]
theorem chk_L {a : Adr} (h0 : ¬ chkS a) (h1 : ¬ chkR a) (h2 : ¬ chkF a) : chkC a = if 2000 < (writeA a).length then 2 else 0 := by unfold chkC; rw [if_neg h0, if_neg h1, if_neg h2]
theorem chk_nR {a : Adr} (k1 : (¬ a.path = [] → ((a.path[0]?.getD 0).toNat : Int) = 47) ∧ isRow [63] a.path) (k2 : isRow [] a.query) (k3 : isRow [] a.frag) : ¬ chkR a := by
  rintro (h | h | h | h)
  · have := k1.1 h.1; have := h.2; omega
  · exact h k1.2
  · exact h k2
  · exact h k3
theorem chk_nF {a : Adr} (k1 : ¬ a.query = [] → a.hasQ = true) (k2 : ¬ a.frag = [] → a.hasF = true) : ¬ chkF a := by
  rintro (h | h)
  · have := k1 h.1; rw [h.2] at this; cases this
  · have := k2 h.1; rw [h.2] at this; cases this
theorem check_ok (a : Adr) (hf : a.Fits) : FnOk Tryz.prog 21 [adrD a] (int (chkC a)) := by
  refine fnOk Tryz.func21 rfl (by kernel_rfl) Tryz.ntmps21 _ rfl (by simp) fun C hc => ?_
  have hW := write_ok a hf
  obtain ⟨h1, h2, h3, h4, h5, h6⟩ := hf
  have hSm := small_ok a.scheme (by omega)
  have hHo := isHost_ok a.host (by omega)
  have hPo := portOf_ok a.port (by omega)
  have hR1 := isRow_ok a.path [63] (by omega)
  have hR2 := isRow_ok a.query [] (by omega)
  have hR3 := isRow_ok a.frag [] (by omega)
  repeat' (first | (first | refine Ya ?_ | refine Yb ?_ | refine Yc ?_ | refine Yd ?_ | refine Ye ?_ | refine Yf ?_ | refine Yg ?_ | refine Yh ?_ | refine Yi ?_ | refine Yj ?_ | refine Yk ?_ | refine Yl ?_ | refine Ym ?_ | refine Yn ?_ | refine Yo ?_ | refine Yp (h := ?_) | refine Yq ?_ | refine Yr ?_ | refine Ys ?_ | refine Zr hc (hk := ?_) | refine Zd hc (hk := ?_) | (refine Zc (ht := fun hb => ?_) (hf := fun hb => ?_) <;> (try simp at hb)) | fail) | (first | refine Zw hc (hf := by first | exact hSm | exact hHo | exact hPo) (hk := ?_) | refine Zq hc (hf := by first | exact hSm | exact hHo | exact hPo) (hk := ?_) | refine Zo hc (hk := ?_) | refine Zu hc (hk := ?_) | refine Ze hc (hk := ?_) | refine Zn hc (hk := ?_) | fail))
  all_goals try (exfalso; simp_all; done)
  all_goals skip
  · have e : chkC a = 10 := by unfold chkC; rw [if_pos (.inl (fun h => by rcases h with h | h; exact hb.1 h; exact hb.2 h))]
    rw [e]
    (refine Zl hc (hr := ?_))
    simp
  · have e : chkC a = 10 := by unfold chkC; rw [if_pos (.inr (.inl hb))]
    rw [e]
    (refine Zl hc (hr := ?_))
    simp
  · have e : chkC a = 10 := by unfold chkC; rw [if_pos (.inr (.inr hb))]
    rw [e]
    (refine Zl hc (hr := ?_))
    simp
  have hS0 : ¬ chkS a := by
    rename_i k1 k2
    rintro (h | h | h)
    · exact h (by
        by_cases e : small a.scheme = [104, 116, 116, 112]
        · exact .inl e
        · exact .inr (k1 e))
    · rw [h] at k2; cases k2
    · exact hb h.1 h.2
  have hpl : ¬ a.path = [] → 0 < a.path.length := fun h => by
    cases e : a.path with
    | nil => exact absurd e h
    | cons c r => simp
  repeat' (first | (first | refine Ya ?_ | refine Yb ?_ | refine Yc ?_ | refine Yd ?_ | refine Ye ?_ | refine Yf ?_ | refine Yg ?_ | refine Yh ?_ | refine Yi ?_ | refine Yj ?_ | refine Yk ?_ | refine Yl ?_ | refine Ym ?_ | refine Yn ?_ | refine Yo ?_ | refine Yp (h := ?_) | refine Yq ?_ | refine Yr ?_ | refine Ys ?_ | refine Zr hc (hk := ?_) | refine Zd hc (hk := ?_) | (refine Zc (ht := fun hb => ?_) (hf := fun hb => ?_) <;> (try simp at hb)) | fail) | (first | refine Zw hc (hf := by first | exact hR1 | exact hR2 | exact hR3 | exact hW) (hk := ?_) | refine Zq hc (hf := by first | exact hR1 | exact hR2 | exact hR3 | exact hW) (hk := ?_) | refine Zo hc (hk := ?_) | refine Zu hc (hk := ?_) | refine Ze hc (hk := ?_) | refine Zn hc (hk := ?_) | fail))
  all_goals try (exfalso; simp_all; done)
  · rw [chk_R hS0 (by
      rcases hb with h | h
      · exact .inl ⟨h.1, by omega⟩
      · exact .inr (.inl h))]
    (refine Zl hc (hr := ?_))
    simp
  · rw [chk_R hS0 (.inr (.inr (.inl hb)))]
    (refine Zl hc (hr := ?_))
    simp
  · rw [chk_R hS0 (.inr (.inr (.inr hb)))]
    (refine Zl hc (hr := ?_))
    simp
  · rename_i k1 k2 k3 k4
    rw [chk_F hS0 (chk_nR k1 k2 k3) (.inl hb)]
    (refine Zl hc (hr := ?_))
    simp
  · rename_i k1 k2 k3 k4
    rw [chk_F hS0 (chk_nR k1 k2 k3) (.inr hb)]
    (refine Zl hc (hr := ?_))
    simp
  · rename_i k1 k2 k3 k4 k5
    rw [chk_L hS0 (chk_nR k1 k2 k3) (chk_nF k4 k5), if_pos (by omega)]
    (refine Zl hc (hr := ?_))
    simp
  · rename_i k1 k2 k3 k4 k5
    rw [chk_L hS0 (chk_nR k1 k2 k3) (chk_nF k4 k5), if_neg (by omega)]
    (refine Zl hc (hr := ?_))
    simp
def textC (a : Adr) : Bs × Nat := if chkC a = 0 then (writeA a, 0) else ([], chkC a)
end Go.Proofs.YtpmfmjgnhdfakaaGreatDoor
