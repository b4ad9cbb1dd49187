/-
  TRAPS: slices.Concat, IndexFunc, ContainsFunc at strings; Trapped (program). (WITH run_drawN.)
-/
import Derived.Test.YtnainpghpjelcaaGreatDoorTrC
import Derived.Test.YtnainpghpjelcaaGreatDoorOwnD
import Derived.Test.YtnainpghpjelcaaGreatDoorFrAwake
import Derived.Test.YtnainpghpjelcaaGreatDoorFnL
set_option linter.unusedSimpArgs false
set_option linter.unusedVariables false
namespace Go.Proofs.YtnainpghpjelcaaGreatDoor
open Go.Lw Go.RowKit
set_option maxRecDepth 100000
set_option maxHeartbeats 4000000

/-- A row of a string that is none. -/
abbrev noStr : List D := [str []]
abbrev rowS (L : List Bs) : List (List D) := L.map fun x => [str x]
theorem noElem : eElem Tryz.prog 3 = none := by kernel_rfl
theorem growS_ok (n : Nat) (hn : n ≤ 100000) : FnMem Tryz.prog 175 [.d (.lit (.slice none 0 0)), .d (int n)] [] (.os 22 0) [(22, .own 9 1 (true, noStr) (List.replicate n noStr))] := by
  refine fnMem Tryz.func175 rfl (by kernel_rfl) Tryz.ntmps175 _ rfl (by simp) fun C hc => ?_
  rcases Nat.eq_zero_or_pos n with rfl | h0
  · repeat' (first | (first | refine Ya ?_ | refine Yb ?_ | refine Yc ?_ | refine Yd ?_ | refine Ye ?_ | refine Yf ?_ | refine Yg ?_ | refine Yh ?_ | refine Yi ?_ | refine Yj ?_ | refine Yk ?_ | refine Yl ?_ | refine Ym ?_ | refine Yn ?_ | refine Yo ?_ | refine Yp (h := ?_) | refine Yq ?_ | refine Yr ?_ | refine Ys ?_ | refine Zr hc (hk := ?_) | refine Zd hc (hk := ?_) | (refine Zc (ht := fun hb => ?_) (hf := fun hb => ?_) <;> (try simp at hb)) | fail) | (first | refine Zo hc (hk := ?_) | refine Zu hc (hk := ?_) | refine Ze hc (hk := ?_) | refine Zn hc (hk := ?_) | fail))
    all_goals try contradiction
    all_goals try (exfalso; omega)
    exact run_leaveM [22] hc (le_births [(4, none, 22, 9, [str []])] (by simp; exact Gives.mk) (le_end rfl)) (by simp; exact Gives.mk) (by simp; exact Gives.mk) (by simp) (by simp)
  · repeat' (first | (first | refine ewp_seq ?_ | refine run_region hc (by simp [noElem]; exact Ends.go) (by first | exact True.intro | omega | assumption | (simp; done) | (simp; omega) | (simp at *; omega)) ?_ | refine run_draw hc (by kernel_rfl) (by kernel_rfl) (by simp [noElem]; exact Ends.go) (by first | exact True.intro | omega | assumption | (simp; done) | (simp; omega) | (simp at *; omega)) ?_ | refine ewp_scope ?_ | refine scopeQ_normal ?_ | refine scopeQ_ret ?_ | refine scopeQ_exit ?_ | refine ewp_skip ?_ | refine ewp_block ?_ | refine ewp_exit ?_ | refine ewp_label ?_ | refine thenQ_normal ?_ | refine thenQ_ret ?_ | refine thenQ_exit ?_ | refine blockQ_normal ?_ | refine blockQ_ret ?_ | refine blockQ_here ?_ | refine blockQ_there (by decide) ?_ | refine ewp_ret ?_ | refine opsW_nil ?_ | refine quietW_nil ?_ | (refine run_cond (by simp [noElem]; exact Gives.mk) (fun hb => ?_) (fun hb => ?_) <;> (try simp at hb)) | fail) | (first | refine run_callW hc (by simp [noElem]; exact Gives.mk) (by simp [noElem]; exact Gives.mk) (by simp [noElem]; exact Gives.mk) (by simp [noElem]; exact Gives.mk) (by simp [noElem]; exact Gives.mk) (fun _ => by first | exact trivial) (by simp) (by simp) ?_ | refine run_callQ hc (by simp [noElem]; exact Gives.mk) (by simp [noElem]; exact Gives.mk) (by simp [noElem]; exact Gives.mk) (by simp [noElem]; exact Gives.mk) (by simp [noElem]; exact Gives.mk) (fun _ => by first | exact trivial) (by simp) (by simp) ?_ | refine run_ops hc (by simp [noElem]; first | exact Ends.go | exact Ends.halt) (by decide) (by first | exact True.intro | omega | assumption | (simp; done) | (simp; omega) | (simp at *; omega)) ?_ | refine run_quiet hc (by simp [noElem]; first | exact Ends.go | exact Ends.halt) (by decide) (by first | exact True.intro | omega | assumption | (simp; done) | (simp; omega) | (simp at *; omega)) ?_ | refine run_regionW hc (by simp [noElem]; exact Ends.halt) (by first | exact True.intro | omega | assumption | (simp; done) | (simp; omega) | (simp at *; omega)) ?_ | refine run_drawN hc (by kernel_rfl) (by decide) (by kernel_rfl) (by simp [noElem]; exact Ends.halt) (by first | exact True.intro | omega | assumption | (simp; done) | (simp; omega) | (simp at *; omega)) ?_ | fail))
    all_goals try contradiction
    all_goals try (exfalso; omega)
    refine run_leaveM [22] hc (le_end rfl) (by simp; exact Gives.mk) (by simp; exact Gives.mk) (by simp) (by simp)
theorem concat_ok (A B : List Bs) (h1 : A.length ≤ 4010) (h2 : B.length ≤ 4010) : FnOk Tryz.prog 129 [.sl 2 fun i => [[strSl A], [strSl B]][i]?.getD [.lit (.slice none 0 0)]] (strSl (A ++ B)) := by
  refine fnOk Tryz.func129 rfl (by kernel_rfl) Tryz.ntmps129 _ rfl (by simp) fun C hc => ?_
  have hG := growS_ok (A.length + B.length) (by omega)
  have eA : (List.range A.length).map (fun i => [str (A[i]?.getD [])]) = rowS A := by simpa using map_range_getD A [] (fun x => [str x])
  have eB : (List.range B.length).map (fun i => [str (B[i]?.getD [])]) = rowS B := by simpa using map_range_getD B [] (fun x => [str x])
  repeat' (first | (first | refine Ya ?_ | refine Yb ?_ | refine Yc ?_ | refine Yd ?_ | refine Ye ?_ | refine Yf ?_ | refine Yg ?_ | refine Yh ?_ | refine Yi ?_ | refine Yj ?_ | refine Yk ?_ | refine Yl ?_ | refine Ym ?_ | refine Yn ?_ | refine Yo ?_ | refine Yp (h := ?_) | refine Yq ?_ | refine Yr ?_ | refine Ys ?_ | refine Zr hc (hk := ?_) | refine Zd hc (hk := ?_) | (refine Zc (ht := fun hb => ?_) (hf := fun hb => ?_) <;> (try simp at hb)) | fail) | (first | refine Zo hc (hk := ?_) | refine Zu hc (hk := ?_) | refine Ze hc (hk := ?_) | refine Zn hc (hk := ?_) | fail))
  refine ewp_loop (fun j : Nat => ⟨[(0, .d (.sl 2 fun i => [[strSl A], [strSl B]][i]?.getD [.lit (.slice none 0 0)])), (3, .d (int (if j = 0 then 0 else if j = 1 then (A.length : Int) else ((A.length + B.length : Nat) : Int)))), (9, .d (.sl 2 fun i => [[strSl A], [strSl B]][i]?.getD [.lit (.slice none 0 0)])), (10, .d (int 2)), (11, .d (int j))], []⟩) (fun j => j ≤ 2) (fun j => 2 - j) 0 (by simp) (run_keep [0, 3, 9, 10, 11] [] (by simp; exact Gives.mk) (by simp; exact Gives.mk)) ?_
  intro j hj
  match j, hj with
  | 0, _ =>
    repeat' (first | (first | refine Ya ?_ | refine Yb ?_ | refine Yc ?_ | refine Yd ?_ | refine Ye ?_ | refine Yf ?_ | refine Yg ?_ | refine Yh ?_ | refine Yi ?_ | refine Yj ?_ | refine Yk ?_ | refine Yl ?_ | refine Ym ?_ | refine Yn ?_ | refine Yo ?_ | refine Yp (h := ?_) | refine Yq ?_ | refine Yr ?_ | refine Ys ?_ | refine Zr hc (hk := ?_) | refine Zd hc (hk := ?_) | (refine Zc (ht := fun hb => ?_) (hf := fun hb => ?_) <;> (try simp at hb)) | fail) | (first | refine Zo hc (hk := ?_) | refine Zu hc (hk := ?_) | refine Ze hc (hk := ?_) | refine Zn hc (hk := ?_) | fail))
    all_goals try contradiction
    all_goals try (exfalso; omega)
    exact ⟨1, by omega, by omega, run_back [0, 3, 9, 10, 11] [] (by simp; exact Gives.mk) (by simp; exact Gives.mk) (by simp)⟩
  | 1, _ =>
    repeat' (first | (first | refine Ya ?_ | refine Yb ?_ | refine Yc ?_ | refine Yd ?_ | refine Ye ?_ | refine Yf ?_ | refine Yg ?_ | refine Yh ?_ | refine Yi ?_ | refine Yj ?_ | refine Yk ?_ | refine Yl ?_ | refine Ym ?_ | refine Yn ?_ | refine Yo ?_ | refine Yp (h := ?_) | refine Yq ?_ | refine Yr ?_ | refine Ys ?_ | refine Zr hc (hk := ?_) | refine Zd hc (hk := ?_) | (refine Zc (ht := fun hb => ?_) (hf := fun hb => ?_) <;> (try simp at hb)) | fail) | (first | refine Zo hc (hk := ?_) | refine Zu hc (hk := ?_) | refine Ze hc (hk := ?_) | refine Zn hc (hk := ?_) | fail))
    all_goals try contradiction
    all_goals try (exfalso; omega)
    exact ⟨2, by omega, by omega, run_back [0, 3, 9, 10, 11] [] (by simp; exact Gives.mk) (by simp; exact Gives.mk) (by simp)⟩
  | 2, _ =>
    repeat' (first | (first | refine Ya ?_ | refine Yb ?_ | refine Yc ?_ | refine Yd ?_ | refine Ye ?_ | refine Yf ?_ | refine Yg ?_ | refine Yh ?_ | refine Yi ?_ | refine Yj ?_ | refine Yk ?_ | refine Yl ?_ | refine Ym ?_ | refine Yn ?_ | refine Yo ?_ | refine Yp (h := ?_) | refine Yq ?_ | refine Yr ?_ | refine Ys ?_ | refine Zr hc (hk := ?_) | refine Zd hc (hk := ?_) | (refine Zc (ht := fun hb => ?_) (hf := fun hb => ?_) <;> (try simp at hb)) | fail) | ((first | refine run_callM ([(22, 40005)]) (hG) hc (by simp; exact Gives.mk) (by simp; exact Gives.mk) (by simp; exact Gives.mk) (by simp; exact Gives.mk) (by simp; exact Gives.mk) rfl (by simp; exact Gives.mk) (by simp; exact Gives.mk) rfl (by simp) (by simp) (by simp; exact Gives.mk) (by simp; exact Gives.mk) ?_ | fail)) | (first | refine Zo hc (hk := ?_) | refine Zu hc (hk := ?_) | refine Ze hc (hk := ?_) | refine Zn hc (hk := ?_) | fail))
    all_goals try contradiction
    all_goals try (exfalso; omega)
    refine ewp_loop (fun j : Nat => ⟨[(6, .os 40005 (if j = 0 then 0 else if j = 1 then A.length else A.length + B.length)), (25, .d (.sl 2 fun i => [[strSl A], [strSl B]][i]?.getD [.lit (.slice none 0 0)])), (26, .d (int 2)), (27, .d (int j))], [(40005, .own 9 1 (true, noStr) (if j = 0 then List.replicate (A.length + B.length) noStr else if j = 1 then rowS A else rowS (A ++ B)))]⟩) (fun j => j ≤ 2) (fun j => 2 - j) 0 (by simp) (run_keep [6, 25, 26, 27] [40005] (by simp; exact Gives.mk) (by simp; exact Gives.mk)) ?_
    intro j hj
    match j, hj with
    | 0, _ =>
      repeat' (first | (first | refine Ya ?_ | refine Yb ?_ | refine Yc ?_ | refine Yd ?_ | refine Ye ?_ | refine Yf ?_ | refine Yg ?_ | refine Yh ?_ | refine Yi ?_ | refine Yj ?_ | refine Yk ?_ | refine Yl ?_ | refine Ym ?_ | refine Yn ?_ | refine Yo ?_ | refine Yp (h := ?_) | refine Yq ?_ | refine Yr ?_ | refine Ys ?_ | refine Zr hc (hk := ?_) | refine Zd hc (hk := ?_) | (refine Zc (ht := fun hb => ?_) (hf := fun hb => ?_) <;> (try simp at hb)) | fail) | (first | refine Zo hc (hk := ?_) | refine Zu hc (hk := ?_) | refine Ze hc (hk := ?_) | refine Zn hc (hk := ?_) | fail))
      all_goals try contradiction
      all_goals try (exfalso; omega)
      exact ⟨1, by omega, by omega, run_back [6, 25, 26, 27] [40005] (by simp; exact Gives.mk) (by simp; exact Gives.mk) (by simp [eA, eB])⟩
    | 1, _ =>
      repeat' (first | (first | refine Ya ?_ | refine Yb ?_ | refine Yc ?_ | refine Yd ?_ | refine Ye ?_ | refine Yf ?_ | refine Yg ?_ | refine Yh ?_ | refine Yi ?_ | refine Yj ?_ | refine Yk ?_ | refine Yl ?_ | refine Ym ?_ | refine Yn ?_ | refine Yo ?_ | refine Yp (h := ?_) | refine Yq ?_ | refine Yr ?_ | refine Ys ?_ | refine Zr hc (hk := ?_) | refine Zd hc (hk := ?_) | (refine Zc (ht := fun hb => ?_) (hf := fun hb => ?_) <;> (try simp at hb)) | fail) | (first | refine Zo hc (hk := ?_) | refine Zu hc (hk := ?_) | refine Ze hc (hk := ?_) | refine Zn hc (hk := ?_) | fail))
      all_goals try contradiction
      all_goals try (exfalso; omega)
      exact ⟨2, by omega, by omega, run_back [6, 25, 26, 27] [40005] (by simp; exact Gives.mk) (by simp; exact Gives.mk) (by simp [eA, eB])⟩
    | 2, _ =>
      repeat' (first | (first | refine Ya ?_ | refine Yb ?_ | refine Yc ?_ | refine Yd ?_ | refine Ye ?_ | refine Yf ?_ | refine Yg ?_ | refine Yh ?_ | refine Yi ?_ | refine Yj ?_ | refine Yk ?_ | refine Yl ?_ | refine Ym ?_ | refine Yn ?_ | refine Yo ?_ | refine Yp (h := ?_) | refine Yq ?_ | refine Yr ?_ | refine Ys ?_ | refine Zr hc (hk := ?_) | refine Zd hc (hk := ?_) | (refine Zc (ht := fun hb => ?_) (hf := fun hb => ?_) <;> (try simp at hb)) | fail) | (first | refine Zo hc (hk := ?_) | refine Zu hc (hk := ?_) | refine Ze hc (hk := ?_) | refine Zn hc (hk := ?_) | fail))
      all_goals try contradiction
      all_goals try (exfalso; omega)
      (refine Zl hc (hr := ?_))
      simp
theorem concatNil_ok (A B : List Bs) (h1 : A.length ≤ 4010) (h2 : B.length ≤ 4010) (h3 : B = []) : FnOk Tryz.prog 129 [.sl 2 fun i => [[strSl A], [.lit (.slice none 0 0)]][i]?.getD [.lit (.slice none 0 0)]] (strSl (A ++ B)) := by
  refine fnOk Tryz.func129 rfl (by kernel_rfl) Tryz.ntmps129 _ rfl (by simp) fun C hc => ?_
  have hG := growS_ok (A.length + B.length) (by omega)
  have eA : (List.range A.length).map (fun i => [str (A[i]?.getD [])]) = rowS A := by simpa using map_range_getD A [] (fun x => [str x])
  have eB : (List.range B.length).map (fun i => [str (B[i]?.getD [])]) = rowS B := by simpa using map_range_getD B [] (fun x => [str x])
  have h4 : B.length = 0 := by rw [h3]; rfl
  repeat' (first | (first | refine Ya ?_ | refine Yb ?_ | refine Yc ?_ | refine Yd ?_ | refine Ye ?_ | refine Yf ?_ | refine Yg ?_ | refine Yh ?_ | refine Yi ?_ | refine Yj ?_ | refine Yk ?_ | refine Yl ?_ | refine Ym ?_ | refine Yn ?_ | refine Yo ?_ | refine Yp (h := ?_) | refine Yq ?_ | refine Yr ?_ | refine Ys ?_ | refine Zr hc (hk := ?_) | refine Zd hc (hk := ?_) | (refine Zc (ht := fun hb => ?_) (hf := fun hb => ?_) <;> (try simp at hb)) | fail) | (first | refine Zo hc (hk := ?_) | refine Zu hc (hk := ?_) | refine Ze hc (hk := ?_) | refine Zn hc (hk := ?_) | fail))
  refine ewp_loop (fun j : Nat => ⟨[(0, .d (.sl 2 fun i => [[strSl A], [.lit (.slice none 0 0)]][i]?.getD [.lit (.slice none 0 0)])), (3, .d (int (if j = 0 then 0 else if j = 1 then (A.length : Int) else ((A.length + B.length : Nat) : Int)))), (9, .d (.sl 2 fun i => [[strSl A], [.lit (.slice none 0 0)]][i]?.getD [.lit (.slice none 0 0)])), (10, .d (int 2)), (11, .d (int j))], []⟩) (fun j => j ≤ 2) (fun j => 2 - j) 0 (by simp) (run_keep [0, 3, 9, 10, 11] [] (by simp; exact Gives.mk) (by simp; exact Gives.mk)) ?_
  intro j hj
  match j, hj with
  | 0, _ =>
    repeat' (first | (first | refine Ya ?_ | refine Yb ?_ | refine Yc ?_ | refine Yd ?_ | refine Ye ?_ | refine Yf ?_ | refine Yg ?_ | refine Yh ?_ | refine Yi ?_ | refine Yj ?_ | refine Yk ?_ | refine Yl ?_ | refine Ym ?_ | refine Yn ?_ | refine Yo ?_ | refine Yp (h := ?_) | refine Yq ?_ | refine Yr ?_ | refine Ys ?_ | refine Zr hc (hk := ?_) | refine Zd hc (hk := ?_) | (refine Zc (ht := fun hb => ?_) (hf := fun hb => ?_) <;> (try simp at hb)) | fail) | (first | refine Zo hc (hk := ?_) | refine Zu hc (hk := ?_) | refine Ze hc (hk := ?_) | refine Zn hc (hk := ?_) | fail))
    all_goals try contradiction
    all_goals try (exfalso; omega)
    exact ⟨1, by omega, by omega, run_back [0, 3, 9, 10, 11] [] (by simp; exact Gives.mk) (by simp; exact Gives.mk) (by simp [h4])⟩
  | 1, _ =>
    repeat' (first | (first | refine Ya ?_ | refine Yb ?_ | refine Yc ?_ | refine Yd ?_ | refine Ye ?_ | refine Yf ?_ | refine Yg ?_ | refine Yh ?_ | refine Yi ?_ | refine Yj ?_ | refine Yk ?_ | refine Yl ?_ | refine Ym ?_ | refine Yn ?_ | refine Yo ?_ | refine Yp (h := ?_) | refine Yq ?_ | refine Yr ?_ | refine Ys ?_ | refine Zr hc (hk := ?_) | refine Zd hc (hk := ?_) | (refine Zc (ht := fun hb => ?_) (hf := fun hb => ?_) <;> (try simp at hb)) | fail) | (first | refine Zo hc (hk := ?_) | refine Zu hc (hk := ?_) | refine Ze hc (hk := ?_) | refine Zn hc (hk := ?_) | fail))
    all_goals try contradiction
    all_goals try (exfalso; omega)
    exact ⟨2, by omega, by omega, run_back [0, 3, 9, 10, 11] [] (by simp; exact Gives.mk) (by simp; exact Gives.mk) (by simp [h4])⟩
  | 2, _ =>
    repeat' (first | (first | refine Ya ?_ | refine Yb ?_ | refine Yc ?_ | refine Yd ?_ | refine Ye ?_ | refine Yf ?_ | refine Yg ?_ | refine Yh ?_ | refine Yi ?_ | refine Yj ?_ | refine Yk ?_ | refine Yl ?_ | refine Ym ?_ | refine Yn ?_ | refine Yo ?_ | refine Yp (h := ?_) | refine Yq ?_ | refine Yr ?_ | refine Ys ?_ | refine Zr hc (hk := ?_) | refine Zd hc (hk := ?_) | (refine Zc (ht := fun hb => ?_) (hf := fun hb => ?_) <;> (try simp at hb)) | fail) | ((first | refine run_callM ([(22, 40005)]) (hG) hc (by simp; exact Gives.mk) (by simp; exact Gives.mk) (by simp; exact Gives.mk) (by simp; exact Gives.mk) (by simp; exact Gives.mk) rfl (by simp; exact Gives.mk) (by simp; exact Gives.mk) rfl (by simp) (by simp) (by simp; exact Gives.mk) (by simp; exact Gives.mk) ?_ | fail)) | (first | refine Zo hc (hk := ?_) | refine Zu hc (hk := ?_) | refine Ze hc (hk := ?_) | refine Zn hc (hk := ?_) | fail))
    all_goals try contradiction
    all_goals try (exfalso; omega)
    refine ewp_loop (fun j : Nat => ⟨[(6, .os 40005 (if j = 0 then 0 else if j = 1 then A.length else A.length + B.length)), (25, .d (.sl 2 fun i => [[strSl A], [.lit (.slice none 0 0)]][i]?.getD [.lit (.slice none 0 0)])), (26, .d (int 2)), (27, .d (int j))], [(40005, .own 9 1 (true, noStr) (if j = 0 then List.replicate (A.length + B.length) noStr else if j = 1 then rowS A else rowS (A ++ B)))]⟩) (fun j => j ≤ 2) (fun j => 2 - j) 0 (by simp) (run_keep [6, 25, 26, 27] [40005] (by simp; exact Gives.mk) (by simp; exact Gives.mk)) ?_
    intro j hj
    match j, hj with
    | 0, _ =>
      repeat' (first | (first | refine Ya ?_ | refine Yb ?_ | refine Yc ?_ | refine Yd ?_ | refine Ye ?_ | refine Yf ?_ | refine Yg ?_ | refine Yh ?_ | refine Yi ?_ | refine Yj ?_ | refine Yk ?_ | refine Yl ?_ | refine Ym ?_ | refine Yn ?_ | refine Yo ?_ | refine Yp (h := ?_) | refine Yq ?_ | refine Yr ?_ | refine Ys ?_ | refine Zr hc (hk := ?_) | refine Zd hc (hk := ?_) | (refine Zc (ht := fun hb => ?_) (hf := fun hb => ?_) <;> (try simp at hb)) | fail) | (first | refine Zo hc (hk := ?_) | refine Zu hc (hk := ?_) | refine Ze hc (hk := ?_) | refine Zn hc (hk := ?_) | fail))
      all_goals try contradiction
      all_goals try (exfalso; omega)
      exact ⟨1, by omega, by omega, run_back [6, 25, 26, 27] [40005] (by simp; exact Gives.mk) (by simp; exact Gives.mk) (by simp [eA, eB, h3])⟩
    | 1, _ =>
      repeat' (first | (first | refine Ya ?_ | refine Yb ?_ | refine Yc ?_ | refine Yd ?_ | refine Ye ?_ | refine Yf ?_ | refine Yg ?_ | refine Yh ?_ | refine Yi ?_ | refine Yj ?_ | refine Yk ?_ | refine Yl ?_ | refine Ym ?_ | refine Yn ?_ | refine Yo ?_ | refine Yp (h := ?_) | refine Yq ?_ | refine Yr ?_ | refine Ys ?_ | refine Zr hc (hk := ?_) | refine Zd hc (hk := ?_) | (refine Zc (ht := fun hb => ?_) (hf := fun hb => ?_) <;> (try simp at hb)) | fail) | (first | refine Zo hc (hk := ?_) | refine Zu hc (hk := ?_) | refine Ze hc (hk := ?_) | refine Zn hc (hk := ?_) | fail))
      all_goals try contradiction
      all_goals try (exfalso; omega)
      exact ⟨2, by omega, by omega, run_back [6, 25, 26, 27] [40005] (by simp; exact Gives.mk) (by simp; exact Gives.mk) (by simp [eA, eB, h3])⟩
    | 2, _ =>
      repeat' (first | (first | refine Ya ?_ | refine Yb ?_ | refine Yc ?_ | refine Yd ?_ | refine Ye ?_ | refine Yf ?_ | refine Yg ?_ | refine Yh ?_ | refine Yi ?_ | refine Yj ?_ | refine Yk ?_ | refine Yl ?_ | refine Ym ?_ | refine Yn ?_ | refine Yo ?_ | refine Yp (h := ?_) | refine Yq ?_ | refine Yr ?_ | refine Ys ?_ | refine Zr hc (hk := ?_) | refine Zd hc (hk := ?_) | (refine Zc (ht := fun hb => ?_) (hf := fun hb => ?_) <;> (try simp at hb)) | fail) | (first | refine Zo hc (hk := ?_) | refine Zu hc (hk := ?_) | refine Ze hc (hk := ?_) | refine Zn hc (hk := ?_) | fail))
      all_goals try contradiction
      all_goals try (exfalso; omega)
      (refine Zl hc (hr := ?_))
      simp [h4]

/-! The first string of a kind. -/
def firstS (L : List Bs) (p : Bs → Bool) (j : Nat) : Int := if j < L.length then (if p (wat L j) = true then (j : Int) else firstS L p (j + 1)) else -1
termination_by L.length - j
theorem firstS_any (L : List Bs) (p : Bs → Bool) (j : Nat) : 0 ≤ firstS L p j ↔ (L.drop j).any p = true := by
  rw [firstS]
  split
  · rename_i h
    rw [List.drop_eq_getElem_cons h, List.any_cons]
    have hw : wat L j = L[j] := by simp [wat, h]
    rw [hw]
    split
    · rename_i hp
      simp [hp]
    · rename_i hp
      rw [firstS_any L p (j + 1)]
      simp [hp]
  · rename_i h
    rw [List.drop_of_length_le (by omega)]
    simp
termination_by L.length - j
theorem idxFS_ok (L : List Bs) (hl : L.length ≤ 100000) (g : FuncId) (caps : List D) (p : Bs → Bool) (hf : ∀ j, j < L.length → FnOk Tryz.prog g (str (wat L j) :: caps) (tru (p (wat L j)))) :
    FnOk Tryz.prog 174 [strSl L, .clo (.func g) caps] (int (firstS L p 0)) := by
  refine fnOk Tryz.func174 rfl (by kernel_rfl) Tryz.ntmps174 _ rfl (by simp) fun C hc => ?_
  repeat' (first | (first | refine Ya ?_ | refine Yb ?_ | refine Yc ?_ | refine Yd ?_ | refine Ye ?_ | refine Yf ?_ | refine Yg ?_ | refine Yh ?_ | refine Yi ?_ | refine Yj ?_ | refine Yk ?_ | refine Yl ?_ | refine Ym ?_ | refine Yn ?_ | refine Yo ?_ | refine Yp (h := ?_) | refine Yq ?_ | refine Yr ?_ | refine Ys ?_ | refine Zr hc (hk := ?_) | refine Zd hc (hk := ?_) | (refine Zc (ht := fun hb => ?_) (hf := fun hb => ?_) <;> (try simp at hb)) | fail) | (first | refine Zo hc (hk := ?_) | refine Zu hc (hk := ?_) | refine Ze hc (hk := ?_) | refine Zn hc (hk := ?_) | fail))
  refine ewp_loop (fun j : Nat => ⟨[(0, .d (strSl L)), (1, .d (.clo (.func g) caps)), (7, .d (int L.length)), (8, .d (int j))], []⟩) (fun j => j ≤ L.length ∧ firstS L p 0 = firstS L p j) (fun j => L.length - j) 0 (by simp) (run_keep [0, 1, 7, 8] [] (by simp; exact Gives.mk) (by simp; exact Gives.mk)) ?_
  rintro j ⟨hj, hA⟩
  have hst : firstS L p j = if j < L.length then (if p (wat L j) = true then (j : Int) else firstS L p (j + 1)) else -1 := by rw [firstS]
  by_cases hlt : j < L.length
  · have hC := hf j hlt
    generalize p (wat L j) = b at hC hst
    repeat' (first | (first | refine Ya ?_ | refine Yb ?_ | refine Yc ?_ | refine Yd ?_ | refine Ye ?_ | refine Yf ?_ | refine Yg ?_ | refine Yh ?_ | refine Yi ?_ | refine Yj ?_ | refine Yk ?_ | refine Yl ?_ | refine Ym ?_ | refine Yn ?_ | refine Yo ?_ | refine Yp (h := ?_) | refine Yq ?_ | refine Yr ?_ | refine Ys ?_ | refine Zr hc (hk := ?_) | refine Zd hc (hk := ?_) | (refine Zc (ht := fun hb => ?_) (hf := fun hb => ?_) <;> (try simp at hb)) | fail) | (first | refine Zw hc (hf := by exact hC) (hk := ?_) | refine Zq hc (hf := by exact hC) (hk := ?_) | refine Zo hc (hk := ?_) | refine Zu hc (hk := ?_) | refine Ze hc (hk := ?_) | refine Zn hc (hk := ?_) | fail))
    all_goals try contradiction
    all_goals try (exfalso; omega)
    · rw [hA, hst, if_pos hlt, if_pos hb]
      (refine Zl hc (hr := ?_))
      simp
    · exact ⟨j + 1, ⟨by omega, by rw [hA, hst, if_pos hlt, if_neg (by simp [hb])]⟩, by omega, run_back [0, 1, 7, 8] [] (by simp; exact Gives.mk) (by simp; exact Gives.mk) (by simp)⟩
  · repeat' (first | (first | refine Ya ?_ | refine Yb ?_ | refine Yc ?_ | refine Yd ?_ | refine Ye ?_ | refine Yf ?_ | refine Yg ?_ | refine Yh ?_ | refine Yi ?_ | refine Yj ?_ | refine Yk ?_ | refine Yl ?_ | refine Ym ?_ | refine Yn ?_ | refine Yo ?_ | refine Yp (h := ?_) | refine Yq ?_ | refine Yr ?_ | refine Ys ?_ | refine Zr hc (hk := ?_) | refine Zd hc (hk := ?_) | (refine Zc (ht := fun hb => ?_) (hf := fun hb => ?_) <;> (try simp at hb)) | fail) | (first | refine Zo hc (hk := ?_) | refine Zu hc (hk := ?_) | refine Ze hc (hk := ?_) | refine Zn hc (hk := ?_) | fail))
    all_goals try contradiction
    all_goals try (exfalso; omega)
    rw [hA, hst, if_neg hlt]
    (refine Zl hc (hr := ?_))
    simp
theorem containsFS_ok (L : List Bs) (hl : L.length ≤ 100000) (g : FuncId) (caps : List D) (p : Bs → Bool) (hf : ∀ j, j < L.length → FnOk Tryz.prog g (str (wat L j) :: caps) (tru (p (wat L j)))) :
    FnOk Tryz.prog 128 [strSl L, .clo (.func g) caps] (tru (L.any p)) := by
  refine fnOk Tryz.func128 rfl (by kernel_rfl) Tryz.ntmps128 _ rfl (by simp) fun C hc => ?_
  have hI := idxFS_ok L hl g caps p hf
  have ha := firstS_any L p 0
  rw [List.drop_zero] at ha
  generalize firstS L p 0 = n at hI ha
  repeat' (first | (first | refine Ya ?_ | refine Yb ?_ | refine Yc ?_ | refine Yd ?_ | refine Ye ?_ | refine Yf ?_ | refine Yg ?_ | refine Yh ?_ | refine Yi ?_ | refine Yj ?_ | refine Yk ?_ | refine Yl ?_ | refine Ym ?_ | refine Yn ?_ | refine Yo ?_ | refine Yp (h := ?_) | refine Yq ?_ | refine Yr ?_ | refine Ys ?_ | refine Zr hc (hk := ?_) | refine Zd hc (hk := ?_) | (refine Zc (ht := fun hb => ?_) (hf := fun hb => ?_) <;> (try simp at hb)) | fail) | (first | refine Zw hc (hf := by exact hI) (hk := ?_) | refine Zq hc (hf := by exact hI) (hk := ?_) | refine Zo hc (hk := ?_) | refine Zu hc (hk := ?_) | refine Ze hc (hk := ?_) | refine Zn hc (hk := ?_) | fail))
  (refine Zl hc (hr := ?_))
  have e : decide (0 ≤ n) = L.any p := by rw [Bool.eq_iff_iff]; simpa using ha
  simp [← e]
/-! The program's count of parts. -/
theorem le_again {L : List Bs} {s : Bs} (h : s ∈ L) : L.count s ≤ againC L := maxN_le.1 (Nat.le_refl (maxN _)) _ (List.mem_map.2 ⟨s, h, rfl⟩)
theorem again_next (K : List Bs) (p : Bs) : againC (K ++ [p]) = max (againC K) (K.count p + 1) := by
  have hc : ∀ s, (K ++ [p]).count s = K.count s + if p = s then 1 else 0 := fun s => by
    rw [List.count_append, List.count_singleton]
    simp
  apply Nat.le_antisymm
  · refine maxN_le.2 fun x hx => ?_
    obtain ⟨s, hs, rfl⟩ := List.mem_map.1 hx
    rw [hc]
    by_cases h : p = s
    · subst h
      rw [if_pos rfl]
      exact Nat.le_max_right _ _
    · rw [if_neg h]
      have hm : s ∈ K := by
        rcases List.mem_append.1 hs with h1 | h1
        · exact h1
        · exact absurd (List.mem_singleton.1 h1).symm h
      exact Nat.le_trans (le_again hm) (Nat.le_max_left _ _)
  · have h1 : againC K ≤ againC (K ++ [p]) := maxN_le.2 fun x hx => by
      obtain ⟨s, hs, rfl⟩ := List.mem_map.1 hx
      have h3 := le_again (L := K ++ [p]) (s := s) (by simp [hs])
      rw [hc] at h3
      omega
    have h2 := le_again (L := K ++ [p]) (s := p) (by simp)
    rw [hc, if_pos rfl] at h2
    omega
theorem trapClo_ok (b : Trp) (s : Bs) (hs : s.length ≤ 9223372036854775807) : FnOk Tryz.prog 130 [str s, .ip (trpCells b) 0] (tru (decide (b.digits < (digC s : Int)))) := by
  refine fnOk Tryz.func130 rfl (by kernel_rfl) Tryz.ntmps130 _ rfl (by simp) fun C hc => ?_
  have hD := digits_ok s hs
  generalize digC s = n at hD ⊢
  obtain ⟨b0, b1, b2, b3, b4⟩ := b
  repeat' (first | (first | refine Ya ?_ | refine Yb ?_ | refine Yc ?_ | refine Yd ?_ | refine Ye ?_ | refine Yf ?_ | refine Yg ?_ | refine Yh ?_ | refine Yi ?_ | refine Yj ?_ | refine Yk ?_ | refine Yl ?_ | refine Ym ?_ | refine Yn ?_ | refine Yo ?_ | refine Yp (h := ?_) | refine Yq ?_ | refine Yr ?_ | refine Ys ?_ | refine Zr hc (hk := ?_) | refine Zd hc (hk := ?_) | (refine Zc (ht := fun hb => ?_) (hf := fun hb => ?_) <;> (try simp at hb)) | fail) | (first | refine Zw hc (hf := by exact hD) (hk := ?_) | refine Zq hc (hf := by exact hD) (hk := ?_) | refine Zo hc (hk := ?_) | refine Zu hc (hk := ?_) | refine Ze hc (hk := ?_) | refine Zn hc (hk := ?_) | fail))
  (refine Zl hc (hr := ?_))
  simp
end Go.Proofs.YtnainpghpjelcaaGreatDoor
/-
  TRAPS: trapped, Trapped (program); FrontierTrapsMatchSpec's own walk. (WITH run_drawN.)
-/
set_option linter.unusedSimpArgs false
set_option linter.unusedVariables false
namespace Go.Proofs.YtnainpghpjelcaaGreatDoor
open Go.Lw Go.RowKit
set_option maxRecDepth 100000
set_option maxHeartbeats 8000000

theorem any_digits (b : Trp) (hd : 1 ≤ b.digits) (A B : List Bs) : ((A ++ B).any fun s => decide (b.digits < (digC s : Int))) = decide (b.digits < max (mostC A : Int) (mostC B : Int)) := by
  rw [Bool.eq_iff_iff]
  simp only [List.any_eq_true, decide_eq_true_eq, List.mem_append]
  have key : ∀ L : List Bs, (∃ s, s ∈ L ∧ b.digits < (digC s : Int)) ↔ b.digits < (mostC L : Int) := fun L => by
    obtain ⟨n, hn⟩ : ∃ n : Nat, b.digits = n := ⟨b.digits.toNat, by omega⟩
    have h1 := @maxN_le (L.map digC) n
    constructor
    · rintro ⟨s, hs, h⟩
      have h2 := maxN_le.1 (Nat.le_refl (maxN (L.map digC))) (digC s) (List.mem_map.2 ⟨s, hs, rfl⟩)
      unfold mostC
      omega
    · intro h
      refine Classical.byContradiction fun hc => ?_
      have h2 : maxN (L.map digC) ≤ n := h1.2 fun x hx => by
        obtain ⟨s, hs, rfl⟩ := List.mem_map.1 hx
        refine Nat.le_of_not_lt fun h3 => hc ⟨s, hs, by omega⟩
      unfold mostC at h
      omega
  have hA := key A
  have hB := key B
  constructor
  · rintro ⟨s, hs | hs, h⟩
    · have := hA.1 ⟨s, hs, h⟩; omega
    · have := hB.1 ⟨s, hs, h⟩; omega
  · intro h
    rcases Int.lt_or_le b.digits (mostC A : Int) with h1 | h1
    · obtain ⟨s, hs, h2⟩ := hA.2 h1; exact ⟨s, .inl hs, h2⟩
    · obtain ⟨s, hs, h2⟩ := hB.2 (by omega); exact ⟨s, .inr hs, h2⟩
theorem trapped_ok (b : Trp) (k : Bs) (hk : k.length ≤ 2000) (hd : 1 ≤ b.digits) : FnOk Tryz.prog 63 [trpD b, str k] (int (trapC b k)) := by
  refine fnOk Tryz.func63 rfl (by kernel_rfl) Tryz.ntmps63 _ rfl (by simp) fun C hc => ?_
  have l1 := cut_lens k 41
  have l2 := trimP_len (Lib.cut k [41]).2.1 [115]
  have l3 := pathOf_lens k
  have hC1 := cut_ok k 41 (by omega)
  have hT := trimP_ok (Lib.cut k [41]).2.1 [115]
  have hC2 := cut_ok (Lib.trimPrefix (Lib.cut k [41]).2.1 [115]) 63 (by omega)
  have hS := split_ok (pathOf k).1 47 (by omega)
  have hQ := split_ok (pathOf k).2.1 38 (by omega)
  have l4 := split_len (pathOf k).1 47
  have l5 := split_len (pathOf k).2.1 38
  have l6 := split_each 47 (pathOf k).1
  have l7 := split_each 38 (pathOf k).2.1
  unfold trapC askedOf partsOf
  have hpe : pathOf k = Lib.cut (Lib.trimPrefix (Lib.cut k [41]).2.1 [115]) [63] := rfl
  rw [← hpe] at hC2
  generalize Lib.trimPrefix (Lib.cut k [41]).2.1 [115] = t at hT hC2 l2 hpe
  clear hpe
  generalize Lib.cut k [41] = c1 at hC1 hT l1 l2
  obtain ⟨c11, c12, c13⟩ := c1
  generalize pathOf k = p at hC2 hS hQ l3 l4 l5 l6 l7 ⊢
  obtain ⟨p1, p2, p3⟩ := p
  simp only at hC1 hT hC2 hS hQ l3 l4 l5 l6 l7 ⊢
  generalize Lib.split p1 [47] = L at hS l4 l6 ⊢
  generalize Lib.split p2 [38] = B at hQ l5 l7 ⊢
  repeat' (first | (first | refine Ya ?_ | refine Yb ?_ | refine Yc ?_ | refine Yd ?_ | refine Ye ?_ | refine Yf ?_ | refine Yg ?_ | refine Yh ?_ | refine Yi ?_ | refine Yj ?_ | refine Yk ?_ | refine Yl ?_ | refine Ym ?_ | refine Yn ?_ | refine Yo ?_ | refine Yp (h := ?_) | refine Yq ?_ | refine Yr ?_ | refine Ys ?_ | refine Zr hc (hk := ?_) | refine Zd hc (hk := ?_) | (refine Zc (ht := fun hb => ?_) (hf := fun hb => ?_) <;> (try simp at hb)) | fail) | (first | refine Zw hc (hf := by first | exact hC1 | exact hT | exact hC2 | exact hS) (hk := ?_) | refine Zq hc (hf := by first | exact hC1 | exact hT | exact hC2 | exact hS) (hk := ?_) | refine Zo hc (hk := ?_) | refine Zu hc (hk := ?_) | refine Ze hc (hk := ?_) | refine Zn hc (hk := ?_) | fail))
  all_goals try contradiction
  refine ewp_loop (fun x : Nat × List (Bs × D) => ⟨[(1, .d (str k)), (2, .bp 2 0), (9, .d (str p2)), (10, .d (tru p3)), (11, .os 40001 ((L.take x.1).filter fun x => !decide (x = [])).length), (12, .d (.lit (.slice none 0 0))), (13, .mp 30), (14, .d (int (againC ((L.take x.1).filter fun x => !decide (x = []))))), (32, .d (strSl L)), (33, .d (int L.length)), (34, .d (int x.1))],
      [(2, .box 41 [.d (int b.len), .d (int b.depth), .d (int b.again), .d (int b.parts), .d (int b.digits)]), (30, .dict x.2), (40001, .own 9 1 (true, noStr) (rowS ((L.take x.1).filter fun x => !decide (x = []))))]⟩)
    (fun x => x.1 ≤ L.length ∧ ∀ s, dget (.lit (.int .i64 0)) x.2 s = int (((L.take x.1).filter fun x => !decide (x = [])).count s)) (fun x => L.length - x.1) (0, []) ⟨by simp, by simp [dget]⟩ (run_keepB [(11, none, 40001, 9, [str []])] [1, 2, 9, 10, 11, 12, 13, 14, 32, 33, 34] [2, 30, 40001] (by simp; exact Gives.mk) (by simp; exact Gives.mk) (by simp; exact Gives.mk)) ?_
  rintro ⟨j, Ld⟩ ⟨hj, hD⟩
  simp only at hj hD ⊢
  have hfl : ((L.take j).filter fun x => !decide (x = [])).length ≤ 2002 := Nat.le_trans (List.length_filter_le _ _) (by rw [List.length_take]; omega)
  by_cases hlt : j < L.length
  · have hn := filter_next (fun x => !decide (x = [])) hlt
    have ha := againC_le ((L.take j).filter fun x => !decide (x = []))
    have hx := again_next ((L.take j).filter fun x => !decide (x = [])) (wat L j)
    have hdj := hD (wat L j)
    have hcl : ((L.take j).filter fun x => !decide (x = [])).count (wat L j) ≤ 2002 := Nat.le_trans List.count_le_length hfl
    generalize hK : (L.take j).filter (fun x => !decide (x = [])) = K at hn ha hx hdj hcl hD hfl ⊢
    repeat' (first | (first | refine ewp_seq ?_ | refine run_region hc (by simp [hdj, dget_put]; exact Ends.go) (by first | exact True.intro | omega | assumption | (simp; done) | (simp; omega) | (simp at *; omega)) ?_ | refine run_draw hc (by kernel_rfl) (by kernel_rfl) (by simp [hdj, dget_put]; exact Ends.go) (by first | exact True.intro | omega | assumption | (simp; done) | (simp; omega) | (simp at *; omega)) ?_ | refine ewp_scope ?_ | refine scopeQ_normal ?_ | refine scopeQ_ret ?_ | refine scopeQ_exit ?_ | refine ewp_skip ?_ | refine ewp_block ?_ | refine ewp_exit ?_ | refine ewp_label ?_ | refine thenQ_normal ?_ | refine thenQ_ret ?_ | refine thenQ_exit ?_ | refine blockQ_normal ?_ | refine blockQ_ret ?_ | refine blockQ_here ?_ | refine blockQ_there (by decide) ?_ | refine ewp_ret ?_ | refine opsW_nil ?_ | refine quietW_nil ?_ | (refine run_cond (by simp [hdj, dget_put]; exact Gives.mk) (fun hb => ?_) (fun hb => ?_) <;> (try simp at hb)) | fail) | (first | refine run_callW hc (by simp [hdj, dget_put]; exact Gives.mk) (by simp [hdj, dget_put]; exact Gives.mk) (by simp [hdj, dget_put]; exact Gives.mk) (by simp [hdj, dget_put]; exact Gives.mk) (by simp [hdj, dget_put]; exact Gives.mk) (fun _ => by first | exact trivial) (by simp) (by simp) ?_ | refine run_callQ hc (by simp [hdj, dget_put]; exact Gives.mk) (by simp [hdj, dget_put]; exact Gives.mk) (by simp [hdj, dget_put]; exact Gives.mk) (by simp [hdj, dget_put]; exact Gives.mk) (by simp [hdj, dget_put]; exact Gives.mk) (fun _ => by first | exact trivial) (by simp) (by simp) ?_ | refine run_ops hc (by simp [hdj, dget_put]; first | exact Ends.go | exact Ends.halt) (by decide) (by first | exact True.intro | omega | assumption | (simp; done) | (simp; omega) | (simp at *; omega)) ?_ | refine run_quiet hc (by simp [hdj, dget_put]; first | exact Ends.go | exact Ends.halt) (by decide) (by first | exact True.intro | omega | assumption | (simp; done) | (simp; omega) | (simp at *; omega)) ?_ | refine run_regionW hc (by simp [hdj, dget_put]; exact Ends.halt) (by first | exact True.intro | omega | assumption | (simp; done) | (simp; omega) | (simp at *; omega)) ?_ | refine run_drawN hc (by kernel_rfl) (by decide) (by kernel_rfl) (by simp [hdj, dget_put]; exact Ends.halt) (by first | exact True.intro | omega | assumption | (simp; done) | (simp; omega) | (simp at *; omega)) ?_ | fail))
    all_goals try contradiction
    all_goals try (exfalso; omega)
    · rw [if_pos (by simpa using hb)] at hn
      have m : (if (againC K : Int) < (K.count (wat L j) : Int) + 1 then (K.count (wat L j) : Int) + 1 else (againC K : Int)) = ((max (againC K) (K.count (wat L j) + 1) : Nat) : Int) := by split <;> omega
      refine ⟨(j + 1, dput Ld (wat L j) (int ((K.count (wat L j) : Int) + 1))), ⟨by simp only; omega, fun s => ?_⟩, by simp only; omega, run_back [1, 2, 9, 10, 11, 12, 13, 14, 32, 33, 34] [2, 30, 40001] (by simp; exact Gives.mk) (by simp; exact Gives.mk) ?_⟩
      · simp only
        rw [hn, dget_put, hD s, List.count_append, List.count_singleton]
        by_cases h : wat L j = s
        · subst h
          simp
        · rw [if_neg h]
          simp [h]
      · simp only [hn, hx, m]
        simp
    · rw [if_neg (by simpa using hb), List.append_nil] at hn
      refine ⟨(j + 1, Ld), ⟨by simp only; omega, fun s => ?_⟩, by simp only; omega, run_back [1, 2, 9, 10, 11, 12, 13, 14, 32, 33, 34] [2, 30, 40001] (by simp; exact Gives.mk) (by simp; exact Gives.mk) (by simp [hn])⟩
      simp only
      rw [hn]
      exact hD s
  · obtain rfl : j = L.length := by omega
    rw [List.take_length] at hfl hD ⊢
    have ha := againC_le (L.filter fun x => !decide (x = []))
    have hal : ∀ s ∈ L.filter (fun x => !decide (x = [])), s.length ≤ 2000 := fun s hs => by have := l6 s (List.mem_filter.1 hs).1; omega
    have hany := any_digits b hd (L.filter fun x => !decide (x = []))
    generalize L.filter (fun x => !decide (x = [])) = A at hfl hD ha hal hany ⊢
    generalize againC A = n1 at ha ⊢
    have hcl : ∀ C : List Bs, C.length ≤ 4010 → (∀ s ∈ C, s.length ≤ 2000) → FnOk Tryz.prog 128 [strSl C, .clo (.func 130) [.ip (trpCells b) 0]] (tru (C.any fun s => decide (b.digits < (digC s : Int)))) := fun C h1 h2 =>
      containsFS_ok C (by omega) 130 [.ip (trpCells b) 0] (fun s => decide (b.digits < (digC s : Int))) fun j hj => trapClo_ok b (wat C j) (by
        have := h2 (wat C j) (by simp only [wat, List.getElem?_eq_getElem hj, Option.getD_some]; exact List.getElem_mem hj)
        omega)
    have eS : strSl A = .sl A.length (fun i => [str (A[i]?.getD [])]) := by
      show D.sl A.length (fun i => (A.map fun x => [str x])[i]?.getD [str []]) = _
      congr 1
      funext i
      simp
    (first | refine run_sealW 40001 hc (by simp; exact Gives.mk) (by simp) ?_ | refine run_seal 40001 hc (by simp; exact Gives.mk) (by simp) ?_)
    (first | refine run_sealW 2 hc (by simp; exact Gives.mk) (by simp) ?_ | refine run_seal 2 hc (by simp; exact Gives.mk) (by simp) ?_)
    cases p3
    · have hCat := concatNil_ok A [] (by omega) (by simp) rfl
      rw [eS] at hCat
      have hF := hcl A (by omega) hal
      have hany := hany []
      rw [List.append_nil] at hCat hany
      rw [hany] at hF
      have e0 : mostC [] = 0 := rfl
      simp only [Bool.false_eq_true, if_false, List.length_nil, e0] at hF ⊢
      repeat' (first | (first | refine Ya ?_ | refine Yb ?_ | refine Yc ?_ | refine Yd ?_ | refine Ye ?_ | refine Yf ?_ | refine Yg ?_ | refine Yh ?_ | refine Yi ?_ | refine Yj ?_ | refine Yk ?_ | refine Yl ?_ | refine Ym ?_ | refine Yn ?_ | refine Yo ?_ | refine Yp (h := ?_) | refine Yq ?_ | refine Yr ?_ | refine Ys ?_ | refine Zr hc (hk := ?_) | refine Zd hc (hk := ?_) | (refine Zc (ht := fun hb => ?_) (hf := fun hb => ?_) <;> (try simp at hb)) | fail) | (first | refine Zo hc (hk := ?_) | refine Zu hc (hk := ?_) | refine Ze hc (hk := ?_) | refine Zn hc (hk := ?_) | fail))
      all_goals try contradiction
      all_goals try (exfalso; omega)
      all_goals (try (first | refine run_sealW 83 hc (by simp; exact Gives.mk) (by simp) ?_ | refine run_seal 83 hc (by simp; exact Gives.mk) (by simp) ?_))
      all_goals (repeat' (first | (first | refine Ya ?_ | refine Yb ?_ | refine Yc ?_ | refine Yd ?_ | refine Ye ?_ | refine Yf ?_ | refine Yg ?_ | refine Yh ?_ | refine Yi ?_ | refine Yj ?_ | refine Yk ?_ | refine Yl ?_ | refine Ym ?_ | refine Yn ?_ | refine Yo ?_ | refine Yp (h := ?_) | refine Yq ?_ | refine Yr ?_ | refine Ys ?_ | refine Zr hc (hk := ?_) | refine Zd hc (hk := ?_) | (refine Zc (ht := fun hb => ?_) (hf := fun hb => ?_) <;> (try simp at hb)) | fail) | (first | refine Zw hc (hf := by first | exact hCat | exact hF) (hk := ?_) | refine Zq hc (hf := by first | exact hCat | exact hF) (hk := ?_) | refine Zo hc (hk := ?_) | refine Zu hc (hk := ?_) | refine Ze hc (hk := ?_) | refine Zn hc (hk := ?_) | fail)))
      all_goals (refine Zl hc (hr := ?_))
      all_goals (simp only [resD]; (repeat' split) <;> first | rfl | (exfalso; omega))
    · have hCat := concat_ok A B (by omega) (by omega)
      rw [eS] at hCat
      have hF := hcl (A ++ B) (by simp; omega) (fun s hs => (List.mem_append.1 hs).elim (hal s) fun h => by have := l7 s h; omega)
      rw [hany B] at hF
      simp only [if_true]
      repeat' (first | (first | refine Ya ?_ | refine Yb ?_ | refine Yc ?_ | refine Yd ?_ | refine Ye ?_ | refine Yf ?_ | refine Yg ?_ | refine Yh ?_ | refine Yi ?_ | refine Yj ?_ | refine Yk ?_ | refine Yl ?_ | refine Ym ?_ | refine Yn ?_ | refine Yo ?_ | refine Yp (h := ?_) | refine Yq ?_ | refine Yr ?_ | refine Ys ?_ | refine Zr hc (hk := ?_) | refine Zd hc (hk := ?_) | (refine Zc (ht := fun hb => ?_) (hf := fun hb => ?_) <;> (try simp at hb)) | fail) | (first | refine Zw hc (hf := by exact hQ) (hk := ?_) | refine Zq hc (hf := by exact hQ) (hk := ?_) | refine Zo hc (hk := ?_) | refine Zu hc (hk := ?_) | refine Ze hc (hk := ?_) | refine Zn hc (hk := ?_) | fail))
      all_goals try contradiction
      all_goals try (exfalso; omega)
      all_goals (try (first | refine run_sealW 83 hc (by simp; exact Gives.mk) (by simp) ?_ | refine run_seal 83 hc (by simp; exact Gives.mk) (by simp) ?_))
      all_goals (repeat' (first | (first | refine Ya ?_ | refine Yb ?_ | refine Yc ?_ | refine Yd ?_ | refine Ye ?_ | refine Yf ?_ | refine Yg ?_ | refine Yh ?_ | refine Yi ?_ | refine Yj ?_ | refine Yk ?_ | refine Yl ?_ | refine Ym ?_ | refine Yn ?_ | refine Yo ?_ | refine Yp (h := ?_) | refine Yq ?_ | refine Yr ?_ | refine Ys ?_ | refine Zr hc (hk := ?_) | refine Zd hc (hk := ?_) | (refine Zc (ht := fun hb => ?_) (hf := fun hb => ?_) <;> (try simp at hb)) | fail) | (first | refine Zw hc (hf := by first | exact hCat | exact hF) (hk := ?_) | refine Zq hc (hf := by first | exact hCat | exact hF) (hk := ?_) | refine Zo hc (hk := ?_) | refine Zu hc (hk := ?_) | refine Ze hc (hk := ?_) | refine Zn hc (hk := ?_) | fail)))
      all_goals (refine Zl hc (hr := ?_))
      all_goals (simp only [resD]; (repeat' split) <;> first | rfl | (exfalso; omega))
theorem frTrapped_ok (b : Trp) (k : Bs) (hk : k.length ≤ 9223372036854775807) : FnOk Tryz.prog 20 [trpD b, str k] (trapD b k) := by
  refine fnOk Tryz.func20 rfl (by kernel_rfl) Tryz.ntmps20 _ rfl (by simp) fun C hc => ?_
  have hB := checkBounds_ok b
  have hO := ofKeyF_ok k hk
  have hT := trapped_ok b k
  have hO2 := ofK_cases k
  unfold trapD
  by_cases h1 : boundsE b = 0
  rotate_left
  · rw [if_pos h1]
    have h1' : ¬ (boundsE b : Int) = 0 := by omega
    generalize boundsE b = e at hB h1 h1' ⊢
    repeat' (first | (first | refine Ya ?_ | refine Yb ?_ | refine Yc ?_ | refine Yd ?_ | refine Ye ?_ | refine Yf ?_ | refine Yg ?_ | refine Yh ?_ | refine Yi ?_ | refine Yj ?_ | refine Yk ?_ | refine Yl ?_ | refine Ym ?_ | refine Yn ?_ | refine Yo ?_ | refine Yp (h := ?_) | refine Yq ?_ | refine Yr ?_ | refine Ys ?_ | refine Zr hc (hk := ?_) | refine Zd hc (hk := ?_) | (refine Zc (ht := fun hb => ?_) (hf := fun hb => ?_) <;> (try simp at hb)) | fail) | (first | refine Zw hc (hf := by exact hB) (hk := ?_) | refine Zq hc (hf := by exact hB) (hk := ?_) | refine Zo hc (hk := ?_) | refine Zu hc (hk := ?_) | refine Ze hc (hk := ?_) | refine Zn hc (hk := ?_) | fail))
    all_goals try contradiction
    (refine Zl hc (hr := ?_))
    simp
  have hd : 1 ≤ b.digits := by
    unfold boundsE inB at h1
    split at h1
    · cases h1
    · rename_i h
      exact (by simpa using fun e => h (.inr (.inr (.inr (.inr (decide_eq_false e))))) : 1 ≤ b.digits ∧ b.digits ≤ 1000000).1
  rw [if_neg (fun e => e h1)]
  rw [h1] at hB
  by_cases h2 : (ofK k).2 = 0
  rotate_left
  · rw [if_pos h2]
    have h2' : ¬ ((ofK k).2 : Int) = 0 := by omega
    generalize ofK k = r at hO h2 h2' ⊢
    obtain ⟨r1, r2⟩ := r
    simp only at hO h2 h2' ⊢
    repeat' (first | (first | refine Ya ?_ | refine Yb ?_ | refine Yc ?_ | refine Yd ?_ | refine Ye ?_ | refine Yf ?_ | refine Yg ?_ | refine Yh ?_ | refine Yi ?_ | refine Yj ?_ | refine Yk ?_ | refine Yl ?_ | refine Ym ?_ | refine Yn ?_ | refine Yo ?_ | refine Yp (h := ?_) | refine Yq ?_ | refine Yr ?_ | refine Ys ?_ | refine Zr hc (hk := ?_) | refine Zd hc (hk := ?_) | (refine Zc (ht := fun hb => ?_) (hf := fun hb => ?_) <;> (try simp at hb)) | fail) | (first | refine Zw hc (hf := by first | exact hB | exact hO) (hk := ?_) | refine Zq hc (hf := by first | exact hB | exact hO) (hk := ?_) | refine Zo hc (hk := ?_) | refine Zu hc (hk := ?_) | refine Ze hc (hk := ?_) | refine Zn hc (hk := ?_) | fail))
    all_goals try contradiction
    (refine Zl hc (hr := ?_))
    simp
  rw [if_neg (fun e => e h2)]
  rcases hO2 with h3 | ⟨_, h4, _⟩
  · exact absurd h2 h3.1
  rw [h2] at hO
  have hT := hT h4 hd
  generalize trapC b k = n at hT ⊢
  repeat' (first | (first | refine Ya ?_ | refine Yb ?_ | refine Yc ?_ | refine Yd ?_ | refine Ye ?_ | refine Yf ?_ | refine Yg ?_ | refine Yh ?_ | refine Yi ?_ | refine Yj ?_ | refine Yk ?_ | refine Yl ?_ | refine Ym ?_ | refine Yn ?_ | refine Yo ?_ | refine Yp (h := ?_) | refine Yq ?_ | refine Yr ?_ | refine Ys ?_ | refine Zr hc (hk := ?_) | refine Zd hc (hk := ?_) | (refine Zc (ht := fun hb => ?_) (hf := fun hb => ?_) <;> (try simp at hb)) | fail) | (first | refine Zw hc (hf := by first | exact hB | exact hO | exact hT) (hk := ?_) | refine Zq hc (hf := by first | exact hB | exact hO | exact hT) (hk := ?_) | refine Zo hc (hk := ?_) | refine Zu hc (hk := ?_) | refine Ze hc (hk := ?_) | refine Zn hc (hk := ?_) | fail))
  all_goals try contradiction
  (refine Zl hc (hr := ?_))
  simp
theorem trapsSpec_ok (b : Trp) (k : Bs) (hk : k.length ≤ 9223372036854775807) : FnOk Tryz.prog 5 [trpD b, str k] (tru true) := by
  refine fnOk Tryz.func5 rfl (by kernel_rfl) Tryz.ntmps5 _ rfl (by simp) fun C hc => ?_
  have h1 := frTrapped_ok b k hk
  have h2 := qTrapped_ok b k hk
  have h3 := checkBounds_ok b
  have h4 := qCheckBounds_ok b
  obtain ⟨x, y, hx⟩ : ∃ x y : Nat, trapD b k = .tup [int x, int y] := by
    unfold trapD
    split
    · exact ⟨0, _, rfl⟩
    · split
      · exact ⟨0, _, rfl⟩
      · exact ⟨_, 0, rfl⟩
  rw [hx] at h1 h2
  generalize boundsE b = e at h3 h4
  repeat' (first | (first | refine Ya ?_ | refine Yb ?_ | refine Yc ?_ | refine Yd ?_ | refine Ye ?_ | refine Yf ?_ | refine Yg ?_ | refine Yh ?_ | refine Yi ?_ | refine Yj ?_ | refine Yk ?_ | refine Yl ?_ | refine Ym ?_ | refine Yn ?_ | refine Yo ?_ | refine Yp (h := ?_) | refine Yq ?_ | refine Yr ?_ | refine Ys ?_ | refine Zr hc (hk := ?_) | refine Zd hc (hk := ?_) | (refine Zc (ht := fun hb => ?_) (hf := fun hb => ?_) <;> (try simp at hb)) | fail) | (first | refine Zw hc (hf := by first | exact h1 | exact h2 | exact h3 | exact h4 | exact awake5_ok) (hk := ?_) | refine Zq hc (hf := by first | exact h1 | exact h2 | exact h3 | exact h4 | exact awake5_ok) (hk := ?_) | refine Zo hc (hk := ?_) | refine Zu hc (hk := ?_) | refine Ze hc (hk := ?_) | refine Zn hc (hk := ?_) | fail))
  all_goals try contradiction
  all_goals (refine Zl hc (hr := ?_))
  all_goals simp
end Go.Proofs.YtnainpghpjelcaaGreatDoor
/-
  TRAPS: a trap's bounds, read.
-/
set_option linter.unusedSimpArgs false
set_option linter.unusedVariables false
namespace Go.Proofs.YtnainpghpjelcaaGreatDoor
open Go.Lw Go.RowKit Go.ChangeShapes Go.WideShapes Go.ChangeAt
set_option maxRecDepth 100000
set_option maxHeartbeats 1000000

def TrpFits (_ : Trp) : Prop := True
theorem opn_trp : Opn Tryz.prog 41 trpCells TrpFits :=
  (opn_flds (total := 5) Tryz.underlying41 rfl (by kernel_rfl) (flds_cons (n := 1) (by kernel_rfl) (by simp) (opn_int Tryz.underlying3) (flds_cons (n := 1) (by kernel_rfl) (by simp) (opn_int Tryz.underlying3) (flds_cons (n := 1) (by kernel_rfl) (by simp) (opn_int Tryz.underlying3) (flds_cons (n := 1) (by kernel_rfl) (by simp) (opn_int Tryz.underlying3) (flds_cons (n := 1) (by kernel_rfl) (by simp) (opn_int Tryz.underlying3) flds_nil)))))).map
    (fun x => (⟨x.1, x.2.1, x.2.2.1, x.2.2.2.1, x.2.2.2.2.1⟩ : Trp)) (fun _ _ => rfl) (fun _ _ => trivial)
theorem opnA_trp : OpnA Tryz.prog 41 trpD TrpFits := opnA_struct opn_trp Tryz.underlying41
end Go.Proofs.YtnainpghpjelcaaGreatDoor
