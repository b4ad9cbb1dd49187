/-
  FRONTIER: Drop (program). (WITH run_drawN.)
-/
import Derived.Test.YtnainpghpjelcaaGreatDoorDel
import Derived.Test.YtnainpghpjelcaaGreatDoorFnD
import Derived.Test.YtnainpghpjelcaaGreatDoorScD
import Derived.Test.YtnainpghpjelcaaGreatDoorFnB
import Derived.Test.YtnainpghpjelcaaGreatDoorFmD
import Derived.Test.YtnainpghpjelcaaGreatDoorFnV
import Derived.Test.YtnainpghpjelcaaGreatDoorFrAwake
import Derived.Test.YtnainpghpjelcaaGreatDoorFnT
set_option linter.unusedSimpArgs false
set_option linter.unusedVariables false
namespace Go.Proofs.YtnainpghpjelcaaGreatDoor
open Go.Lw Go.RowKit
set_option maxRecDepth 100000
set_option maxHeartbeats 4000000

theorem dropClo_ok (L : List Scp) (x : Wnt) (hL : L.length ≤ 9223372036854775807) (hn : ∀ j, (scpAt L j).2.1.length ≤ 9223372036854775807) (hk : x.1.length ≤ 9223372036854775807) : FnOk Tryz.prog 105 [wntD x, .ip [scpSl L] 0] (tru (!(inC L x.1).1)) := by
  refine fnOk Tryz.func105 rfl (by kernel_rfl) Tryz.ntmps105 _ rfl (by simp) fun C hc => ?_
  have h1 := inScope_ok L x.1 hL hn hk
  generalize inC L x.1 = r at h1 ⊢
  obtain ⟨r1, r2⟩ := r
  simp only at h1 ⊢
  repeat' (first | (first | refine Ya ?_ | refine Yb ?_ | refine Yc ?_ | refine Yd ?_ | refine Ye ?_ | refine Yf ?_ | refine Yg ?_ | refine Yh ?_ | refine Yi ?_ | refine Yj ?_ | refine Yk ?_ | refine Yl ?_ | refine Ym ?_ | refine Yn ?_ | refine Yo ?_ | refine Yp (h := ?_) | refine Yq ?_ | refine Yr ?_ | refine Ys ?_ | refine Zr hc (hk := ?_) | refine Zd hc (hk := ?_) | (refine Zc (ht := fun hb => ?_) (hf := fun hb => ?_) <;> (try simp at hb)) | fail) | (first | refine Zw hc (hf := by exact h1) (hk := ?_) | refine Zq hc (hf := by exact h1) (hk := ?_) | refine Zo hc (hk := ?_) | refine Zu hc (hk := ?_) | refine Ze hc (hk := ?_) | refine Zn hc (hk := ?_) | fail))
  (refine Zl hc (hr := ?_))
  simp
/-- What stays. -/
def dropI (f : Frt) (L : List Scp) : List Wnt := f.items.filter fun x => (inC L x.1).1
def dropD (f : Frt) (L : List Scp) : D := if frE f ≠ 0 then .tup [frNo, int (frE f)] else if scpC L ≠ 0 then .tup [frNo, int (scpC L)] else .tup [frD { f with items := dropI f L }, int 0]
theorem del_cells (K : List Wnt) (n : Nat) : (fun i => (K.map wntCells ++ List.replicate n noWnt)[i]?.getD noWnt) = fun i => [str (wntAt K i).1, int (wntAt K i).2.1, int (wntAt K i).2.2] := by
  funext i
  rw [List.getElem?_append]
  split
  · rw [List.getElem?_map, row_w]
  · rename_i h
    simp only [List.length_map] at h
    have h1 : K[i]? = none := List.getElem?_eq_none (by omega)
    simp only [wntAt, h1, List.length_map, List.getElem?_replicate]
    split <;> rfl
theorem frDrop_ok (f : Frt) (L : List Scp) (hf : FrOk f) (hL : L.length ≤ 9223372036854775807) (hn : ∀ j, (scpAt L j).2.1.length ≤ 9223372036854775807) : FnOk Tryz.prog 42 [frD f, scpSl L] (dropD f L) := by
  refine fnOk Tryz.func42 rfl (by kernel_rfl) Tryz.ntmps42 _ rfl (by simp) fun C hc => ?_
  have hF := checkFr_ok f hf
  have hS := checkScopes_ok L hL hn
  unfold dropD
  by_cases he : frE f = 0
  rotate_left
  · rw [if_pos he]
    generalize frE f = e at hF he ⊢
    repeat' (first | (first | refine Ya ?_ | refine Yb ?_ | refine Yc ?_ | refine Yd ?_ | refine Ye ?_ | refine Yf ?_ | refine Yg ?_ | refine Yh ?_ | refine Yi ?_ | refine Yj ?_ | refine Yk ?_ | refine Yl ?_ | refine Ym ?_ | refine Yn ?_ | refine Yo ?_ | refine Yp (h := ?_) | refine Yq ?_ | refine Yr ?_ | refine Ys ?_ | refine Zr hc (hk := ?_) | refine Zd hc (hk := ?_) | (refine Zc (ht := fun hb => ?_) (hf := fun hb => ?_) <;> (try simp at hb)) | fail) | (first | refine Zw hc (hf := by exact hF) (hk := ?_) | refine Zq hc (hf := by exact hF) (hk := ?_) | refine Zo hc (hk := ?_) | refine Zu hc (hk := ?_) | refine Ze hc (hk := ?_) | fail))
    all_goals try contradiction
    (refine Zl hc (hr := ?_))
    simp [frNo]
  have hg := frE_good he
  rw [if_neg (fun e => e he)]
  rw [he] at hF
  by_cases he2 : scpC L = 0
  rotate_left
  · rw [if_pos he2]
    generalize scpC L = e at hS he2 ⊢
    repeat' (first | (first | refine Ya ?_ | refine Yb ?_ | refine Yc ?_ | refine Yd ?_ | refine Ye ?_ | refine Yf ?_ | refine Yg ?_ | refine Yh ?_ | refine Yi ?_ | refine Yj ?_ | refine Yk ?_ | refine Yl ?_ | refine Ym ?_ | refine Yn ?_ | refine Yo ?_ | refine Yp (h := ?_) | refine Yq ?_ | refine Yr ?_ | refine Ys ?_ | refine Zr hc (hk := ?_) | refine Zd hc (hk := ?_) | (refine Zc (ht := fun hb => ?_) (hf := fun hb => ?_) <;> (try simp at hb)) | fail) | (first | refine Zw hc (hf := by first | exact hF | exact hS) (hk := ?_) | refine Zq hc (hf := by first | exact hF | exact hS) (hk := ?_) | refine Zo hc (hk := ?_) | refine Zu hc (hk := ?_) | refine Ze hc (hk := ?_) | fail))
    all_goals try contradiction
    (refine Zl hc (hr := ?_))
    simp [frNo]
  rw [if_neg (fun e => e he2)]
  rw [he2] at hS
  have hOwn := frOwn_ok f hg.items hg.hosts hg.many
  unfold owV at hOwn
  have hD := delW_ok f.items (by have := hg.items; omega) 105 [.ip [scpSl L] 0] (fun x => (inC L x.1).1) (fun j _ => dropClo_ok L (wntAt f.items j) hL hn (by have := hf.keys j; omega))
  change FnMem _ _ _ _ (.os 50001 (dropI f L).length) [(50001, .own _ _ _ ((dropI f L).map wntCells ++ List.replicate (f.items.length - (dropI f L).length) noWnt))] at hD
  have hkl : (dropI f L).length ≤ f.items.length := List.length_filter_le _ _
  generalize dropI f L = K at hD hkl ⊢
  clear hf hg he he2
  obtain ⟨I, H, bu, wi⟩ := f
  simp only at hOwn hD hF hkl ⊢
  repeat' (first | (first | refine Ya ?_ | refine Yb ?_ | refine Yc ?_ | refine Yd ?_ | refine Ye ?_ | refine Yf ?_ | refine Yg ?_ | refine Yh ?_ | refine Yi ?_ | refine Yj ?_ | refine Yk ?_ | refine Yl ?_ | refine Ym ?_ | refine Yn ?_ | refine Yo ?_ | refine Yp (h := ?_) | refine Yq ?_ | refine Yr ?_ | refine Ys ?_ | refine Zr hc (hk := ?_) | refine Zd hc (hk := ?_) | (refine Zc (ht := fun hb => ?_) (hf := fun hb => ?_) <;> (try simp at hb)) | fail) | (first | refine Zw hc (hf := by first | exact hF | exact hS) (hk := ?_) | refine Zq hc (hf := by first | exact hF | exact hS) (hk := ?_) | refine Zo hc (hk := ?_) | refine Zu hc (hk := ?_) | refine Ze hc (hk := ?_) | fail) | ((first | refine run_callM ([(40001, 40001), (40002, 40002)]) (hOwn) hc (by simp; exact Gives.mk) (by simp; exact Gives.mk) (by simp; exact Gives.mk) (by simp; exact Gives.mk) (by simp; exact Gives.mk) rfl (by simp; exact Gives.mk) (by simp; exact Gives.mk) rfl (by simp) (by simp) (by simp; exact Gives.mk) (by simp; exact Gives.mk) ?_ | fail)))
  all_goals try contradiction
  (first | refine run_sealW 3 hc (by simp; exact Gives.mk) (by simp) ?_ | refine run_seal 3 hc (by simp; exact Gives.mk) (by simp) ?_)
  repeat' (first | (first | refine Ya ?_ | refine Yb ?_ | refine Yc ?_ | refine Yd ?_ | refine Ye ?_ | refine Yf ?_ | refine Yg ?_ | refine Yh ?_ | refine Yi ?_ | refine Yj ?_ | refine Yk ?_ | refine Yl ?_ | refine Ym ?_ | refine Yn ?_ | refine Yo ?_ | refine Yp (h := ?_) | refine Yq ?_ | refine Yr ?_ | refine Ys ?_ | refine Zr hc (hk := ?_) | refine Zd hc (hk := ?_) | (refine Zc (ht := fun hb => ?_) (hf := fun hb => ?_) <;> (try simp at hb)) | fail) | ((first | refine run_callM ([(50001, 40001)]) (hD) hc (by simp; exact Gives.mk) (by simp; exact Gives.mk) (by simp; exact Gives.mk) (by simp; exact Gives.mk) (by simp; exact Gives.mk) rfl (by simp; exact Gives.mk) (by simp; exact Gives.mk) rfl (by simp) (by simp) (by simp; exact Gives.mk) (by simp; exact Gives.mk) ?_ | fail)) | (first | refine Zo hc (hk := ?_) | refine Zu hc (hk := ?_) | refine Ze hc (hk := ?_) | fail))
  all_goals try contradiction
  have hm : K.length ≤ K.length + (I.length - K.length) := by omega
  (refine run_leave hc (by simp [hm]; exact Gives.mk) ?_)
  have e := del_cells K (I.length - K.length)
  simp only [wntAt] at e
  simp only [frD, wntSl, resD]
  rw [e]
end Go.Proofs.YtnainpghpjelcaaGreatDoor
/-
  FRONTIER: the reference's Add. (WITH run_drawN.)
-/
set_option linter.unusedSimpArgs false
set_option linter.unusedVariables false
namespace Go.Proofs.YtnainpghpjelcaaGreatDoor
open Go.Lw Go.RowKit
set_option maxRecDepth 100000
set_option maxHeartbeats 8000000

theorem qFrAdd_ok (f : Frt) (w : Wnt) (hf : FrOk f) (hw : w.1.length ≤ 9223372036854775807) : FnOk Tryz.prog 39 [frD f, wntD w] (addD f w) := by
  refine fnOk Tryz.func39 rfl (by kernel_rfl) Tryz.ntmps39 _ rfl (by simp) fun C hc => ?_
  have hF := qCheckFr_ok f hf
  have hW := qCheckWanted_ok w hw
  have hgd := fun h => frE_good (f := f) h
  by_cases he : frE f = 0
  rotate_left
  · have e : addE f w = frE f := by unfold addE; rw [if_pos he]
    unfold addD
    rw [e, if_pos he]
    generalize frE f = e at hF he
    repeat' (first | (first | refine Ya ?_ | refine Yb ?_ | refine Yc ?_ | refine Yd ?_ | refine Ye ?_ | refine Yf ?_ | refine Yg ?_ | refine Yh ?_ | refine Yi ?_ | refine Yj ?_ | refine Yk ?_ | refine Yl ?_ | refine Ym ?_ | refine Yn ?_ | refine Yo ?_ | refine Yp (h := ?_) | refine Yq ?_ | refine Yr ?_ | refine Ys ?_ | refine Zr hc (hk := ?_) | refine Zd hc (hk := ?_) | (refine Zc (ht := fun hb => ?_) (hf := fun hb => ?_) <;> (try simp at hb)) | fail) | (first | refine Zw hc (hf := by exact hF) (hk := ?_) | refine Zq hc (hf := by exact hF) (hk := ?_) | refine Zo hc (hk := ?_) | refine Zu hc (hk := ?_) | refine Ze hc (hk := ?_) | fail))
    all_goals try contradiction
    (refine Zl hc (hr := ?_))
    simp [frNo]
  have hg := hgd he
  rw [he] at hF
  by_cases he2 : wntE w = 0
  rotate_left
  · have e : addE f w = wntE w := by unfold addE; rw [if_neg (fun h => h he), if_pos he2]
    unfold addD
    rw [e, if_pos he2]
    generalize wntE w = e2 at hW he2
    repeat' (first | (first | refine Ya ?_ | refine Yb ?_ | refine Yc ?_ | refine Yd ?_ | refine Ye ?_ | refine Yf ?_ | refine Yg ?_ | refine Yh ?_ | refine Yi ?_ | refine Yj ?_ | refine Yk ?_ | refine Yl ?_ | refine Ym ?_ | refine Yn ?_ | refine Yo ?_ | refine Yp (h := ?_) | refine Yq ?_ | refine Yr ?_ | refine Ys ?_ | refine Zr hc (hk := ?_) | refine Zd hc (hk := ?_) | (refine Zc (ht := fun hb => ?_) (hf := fun hb => ?_) <;> (try simp at hb)) | fail) | (first | refine Zw hc (hf := by first | exact hF | exact hW) (hk := ?_) | refine Zq hc (hf := by first | exact hF | exact hW) (hk := ?_) | refine Zo hc (hk := ?_) | refine Zu hc (hk := ?_) | refine Ze hc (hk := ?_) | fail))
    all_goals try contradiction
    (refine Zl hc (hr := ?_))
    simp [frNo]
  rw [he2] at hW
  have e : addE f w = if thereB (keyAt f.items) f.items.length w.1 = false ∧ 2000 ≤ f.items.length then 16 else 0 := by unfold addE; rw [if_neg (fun h => h he), if_neg (fun h => h he2)]
  unfold addD
  rw [e]
  have hOwn := copied_ok f hg.items hg.hosts
  have hks := hg.keys
  have hI := fun p hp => insFr_ok f.items w p hp hg.items
  have hl := hg.items
  unfold owV at hOwn
  clear hf hgd hg he he2 e
  obtain ⟨I, H, bu, wi⟩ := f
  simp only at hOwn hI hl hF hks ⊢
  unfold addI
  obtain ⟨p1, p2, p3⟩ := lbB_spec (keyAt I) I.length w.1
  have hth : thereB (keyAt I) I.length w.1 = (decide (lbB (keyAt I) I.length w.1 < I.length) && decide (keyAt I (lbB (keyAt I) I.length w.1) = w.1)) := rfl
  generalize lbB (keyAt I) I.length w.1 = p at p1 p2 p3 hth ⊢
  have hI := hI p p1
  clear hks
  repeat' (first | (first | refine Ya ?_ | refine Yb ?_ | refine Yc ?_ | refine Yd ?_ | refine Ye ?_ | refine Yf ?_ | refine Yg ?_ | refine Yh ?_ | refine Yi ?_ | refine Yj ?_ | refine Yk ?_ | refine Yl ?_ | refine Ym ?_ | refine Yn ?_ | refine Yo ?_ | refine Yp (h := ?_) | refine Yq ?_ | refine Yr ?_ | refine Ys ?_ | refine Zr hc (hk := ?_) | refine Zd hc (hk := ?_) | (refine Zc (ht := fun hb => ?_) (hf := fun hb => ?_) <;> (try simp at hb)) | fail) | (first | refine Zw hc (hf := by first | exact hF | exact hW) (hk := ?_) | refine Zq hc (hf := by first | exact hF | exact hW) (hk := ?_) | refine Zo hc (hk := ?_) | refine Zu hc (hk := ?_) | refine Ze hc (hk := ?_) | fail) | ((first | refine run_callM ([(40001, 40001), (40002, 40002)]) (hOwn) hc (by simp; exact Gives.mk) (by simp; exact Gives.mk) (by simp; exact Gives.mk) (by simp; exact Gives.mk) (by simp; exact Gives.mk) rfl (by simp; exact Gives.mk) (by simp; exact Gives.mk) rfl (by simp) (by simp) (by simp; exact Gives.mk) (by simp; exact Gives.mk) ?_ | fail)))
  all_goals try contradiction
  clear hF hW hOwn
  refine ewp_loop (fun j : Nat => ⟨[(3, .bp 3 0), (4, .bp 4 0), (8, .bp 8 0), (9, .d (int j))], [(3, .box 35 [.d (str w.1), .d (int w.2.1), .d (int w.2.2)]), (4, .box 25 [.d (.lit (.slice none 0 0)), .d (.lit (.slice none 0 0)), .d (int 0), .d (int 0)]), (8, .box 25 [.os 40001 I.length, .os 40002 H.length, .d (int bu), .d (int wi)]), owW I, owH H]⟩) (fun j => j ≤ p) (fun j => p - j) 0 (Nat.zero_le _) (run_keep [3, 4, 8, 9] [3, 4, 8, 40001, 40002] (by simp; exact Gives.mk) (by simp; exact Gives.mk)) ?_
  intro j hj
  rcases Nat.lt_or_ge j p with hjp | hjp
  · have hl1 := p2 j hjp
    have hl2 : j < I.length := by omega
    simp only [keyAt, wntAt] at hl1
    repeat' (first | (first | refine ewp_seq ?_ | refine run_region hc (by simp [hl1]; exact Ends.go) (by first | exact True.intro | omega | assumption | (simp; done) | (simp; omega) | (simp at *; omega)) ?_ | refine run_draw hc (by kernel_rfl) (by kernel_rfl) (by simp [hl1]; exact Ends.go) (by first | exact True.intro | omega | assumption | (simp; done) | (simp; omega) | (simp at *; omega)) ?_ | refine ewp_scope ?_ | refine scopeQ_normal ?_ | refine scopeQ_ret ?_ | refine scopeQ_exit ?_ | refine ewp_skip ?_ | refine ewp_block ?_ | refine ewp_exit ?_ | refine ewp_label ?_ | refine thenQ_normal ?_ | refine thenQ_ret ?_ | refine thenQ_exit ?_ | refine blockQ_normal ?_ | refine blockQ_ret ?_ | refine blockQ_here ?_ | refine blockQ_there (by decide) ?_ | refine ewp_ret ?_ | refine opsW_nil ?_ | refine quietW_nil ?_ | (refine run_cond (by simp [hl1]; exact Gives.mk) (fun hb => ?_) (fun hb => ?_) <;> (try simp at hb)) | fail) | (first | refine run_callW hc (by simp [hl1]; exact Gives.mk) (by simp [hl1]; exact Gives.mk) (by simp [hl1]; exact Gives.mk) (by simp [hl1]; exact Gives.mk) (by simp [hl1]; exact Gives.mk) (fun _ => by first | exact trivial) (by simp) (by simp) ?_ | refine run_callQ hc (by simp [hl1]; exact Gives.mk) (by simp [hl1]; exact Gives.mk) (by simp [hl1]; exact Gives.mk) (by simp [hl1]; exact Gives.mk) (by simp [hl1]; exact Gives.mk) (fun _ => by first | exact trivial) (by simp) (by simp) ?_ | refine run_ops hc (by simp [hl1]; first | exact Ends.go | exact Ends.halt) (by decide) (by first | exact True.intro | omega | assumption | (simp; done) | (simp; omega) | (simp at *; omega)) ?_ | refine run_quiet hc (by simp [hl1]; first | exact Ends.go | exact Ends.halt) (by decide) (by first | exact True.intro | omega | assumption | (simp; done) | (simp; omega) | (simp at *; omega)) ?_ | refine run_regionW hc (by simp [hl1]; exact Ends.halt) (by first | exact True.intro | omega | assumption | (simp; done) | (simp; omega) | (simp at *; omega)) ?_ | fail))
    all_goals try contradiction
    all_goals try (exfalso; omega)
    exact ⟨j + 1, by omega, by omega, run_back [3, 4, 8, 9] [3, 4, 8, 40001, 40002] (by simp; exact Gives.mk) (by simp; exact Gives.mk) (by simp)⟩
  obtain rfl : j = p := by omega
  rcases Nat.lt_or_ge j I.length with hlt | hge
  rotate_left
  · have hl3 : ¬ j < I.length := by omega
    have e1 : thereB (keyAt I) I.length w.1 = false := by rw [hth]; simp [hl3]
    rw [e1]
    by_cases hfull : 2000 ≤ I.length
    · rw [if_pos (⟨rfl, hfull⟩ : false = false ∧ 2000 ≤ I.length), if_pos (by decide)]
      repeat' (first | (first | refine ewp_seq ?_ | refine run_region hc (by simp [hl3]; exact Ends.go) (by first | exact True.intro | omega | assumption | (simp; done) | (simp; omega) | (simp at *; omega)) ?_ | refine run_draw hc (by kernel_rfl) (by kernel_rfl) (by simp [hl3]; exact Ends.go) (by first | exact True.intro | omega | assumption | (simp; done) | (simp; omega) | (simp at *; omega)) ?_ | refine ewp_scope ?_ | refine scopeQ_normal ?_ | refine scopeQ_ret ?_ | refine scopeQ_exit ?_ | refine ewp_skip ?_ | refine ewp_block ?_ | refine ewp_exit ?_ | refine ewp_label ?_ | refine thenQ_normal ?_ | refine thenQ_ret ?_ | refine thenQ_exit ?_ | refine blockQ_normal ?_ | refine blockQ_ret ?_ | refine blockQ_here ?_ | refine blockQ_there (by decide) ?_ | refine ewp_ret ?_ | refine opsW_nil ?_ | refine quietW_nil ?_ | (refine run_cond (by simp [hl3]; exact Gives.mk) (fun hb => ?_) (fun hb => ?_) <;> (try simp at hb)) | fail) | (first | refine run_callW hc (by simp [hl3]; exact Gives.mk) (by simp [hl3]; exact Gives.mk) (by simp [hl3]; exact Gives.mk) (by simp [hl3]; exact Gives.mk) (by simp [hl3]; exact Gives.mk) (fun _ => by first | exact trivial) (by simp) (by simp) ?_ | refine run_callQ hc (by simp [hl3]; exact Gives.mk) (by simp [hl3]; exact Gives.mk) (by simp [hl3]; exact Gives.mk) (by simp [hl3]; exact Gives.mk) (by simp [hl3]; exact Gives.mk) (fun _ => by first | exact trivial) (by simp) (by simp) ?_ | refine run_ops hc (by simp [hl3]; first | exact Ends.go | exact Ends.halt) (by decide) (by first | exact True.intro | omega | assumption | (simp; done) | (simp; omega) | (simp at *; omega)) ?_ | refine run_quiet hc (by simp [hl3]; first | exact Ends.go | exact Ends.halt) (by decide) (by first | exact True.intro | omega | assumption | (simp; done) | (simp; omega) | (simp at *; omega)) ?_ | refine run_regionW hc (by simp [hl3]; exact Ends.halt) (by first | exact True.intro | omega | assumption | (simp; done) | (simp; omega) | (simp at *; omega)) ?_ | fail))
      all_goals try contradiction
      all_goals try (exfalso; omega)
      (refine Zl hc (hr := ?_))
      simp [frNo]
    · rw [if_neg (fun h => hfull h.2 : ¬ (false = false ∧ 2000 ≤ I.length)), if_neg (by decide), if_neg (by decide)]
      repeat' (first | (first | refine ewp_seq ?_ | refine run_region hc (by simp [hl3]; exact Ends.go) (by first | exact True.intro | omega | assumption | (simp; done) | (simp; omega) | (simp at *; omega)) ?_ | refine run_draw hc (by kernel_rfl) (by kernel_rfl) (by simp [hl3]; exact Ends.go) (by first | exact True.intro | omega | assumption | (simp; done) | (simp; omega) | (simp at *; omega)) ?_ | refine ewp_scope ?_ | refine scopeQ_normal ?_ | refine scopeQ_ret ?_ | refine scopeQ_exit ?_ | refine ewp_skip ?_ | refine ewp_block ?_ | refine ewp_exit ?_ | refine ewp_label ?_ | refine thenQ_normal ?_ | refine thenQ_ret ?_ | refine thenQ_exit ?_ | refine blockQ_normal ?_ | refine blockQ_ret ?_ | refine blockQ_here ?_ | refine blockQ_there (by decide) ?_ | refine ewp_ret ?_ | refine opsW_nil ?_ | refine quietW_nil ?_ | (refine run_cond (by simp [hl3]; exact Gives.mk) (fun hb => ?_) (fun hb => ?_) <;> (try simp at hb)) | fail) | (first | refine run_callW hc (by simp [hl3]; exact Gives.mk) (by simp [hl3]; exact Gives.mk) (by simp [hl3]; exact Gives.mk) (by simp [hl3]; exact Gives.mk) (by simp [hl3]; exact Gives.mk) (fun _ => by first | exact trivial) (by simp) (by simp) ?_ | refine run_callQ hc (by simp [hl3]; exact Gives.mk) (by simp [hl3]; exact Gives.mk) (by simp [hl3]; exact Gives.mk) (by simp [hl3]; exact Gives.mk) (by simp [hl3]; exact Gives.mk) (fun _ => by first | exact trivial) (by simp) (by simp) ?_ | refine run_ops hc (by simp [hl3]; first | exact Ends.go | exact Ends.halt) (by decide) (by first | exact True.intro | omega | assumption | (simp; done) | (simp; omega) | (simp at *; omega)) ?_ | refine run_quiet hc (by simp [hl3]; first | exact Ends.go | exact Ends.halt) (by decide) (by first | exact True.intro | omega | assumption | (simp; done) | (simp; omega) | (simp at *; omega)) ?_ | refine run_regionW hc (by simp [hl3]; exact Ends.halt) (by first | exact True.intro | omega | assumption | (simp; done) | (simp; omega) | (simp at *; omega)) ?_ | fail) | ((first | refine run_callM ([(50001, 40001), (50002, 93)]) (hI) hc (by simp [hl3]; exact Gives.mk) (by simp [hl3]; exact Gives.mk) (by simp [hl3]; exact Gives.mk) (by simp [hl3]; exact Gives.mk) (by simp [hl3]; exact Gives.mk) rfl (by simp [hl3]; exact Gives.mk) (by simp [hl3]; exact Gives.mk) rfl (by simp) (by simp) (by simp [hl3]; exact Gives.mk) (by simp [hl3]; exact Gives.mk) ?_ | fail)))
      all_goals try contradiction
      all_goals try (exfalso; omega)
      have hm : I.length + 1 ≤ min j I.length + (I.length - j + 1) := by omega
      (refine run_leave hc (by simp [hm]; exact Gives.mk) ?_)
      have e := ins_cells I w j
      simp only [wntAt] at e
      have el : (I.take j ++ w :: I.drop j).length = I.length + 1 := by simp; omega
      simp only [frD, wntSl, el, resD]
      rw [e]
  have hnl := p3 hlt
  simp only [keyAt, wntAt] at hnl
  by_cases heq : keyAt I j = w.1
  · have e1 : thereB (keyAt I) I.length w.1 = true := by rw [hth]; simp [hlt, heq]
    rw [e1, if_neg (fun h => by cases h.1 : ¬ (true = false ∧ 2000 ≤ I.length)), if_neg (by decide), if_pos rfl]
    simp only [keyAt, wntAt] at heq
    have hnl2 : Op.bytesLess w.1 w.1 = false := by rw [← hnl, heq]
    repeat' (first | (first | refine ewp_seq ?_ | refine run_region hc (by simp [heq, hnl2]; exact Ends.go) (by first | exact True.intro | omega | assumption | (simp; done) | (simp; omega) | (simp at *; omega)) ?_ | refine run_draw hc (by kernel_rfl) (by kernel_rfl) (by simp [heq, hnl2]; exact Ends.go) (by first | exact True.intro | omega | assumption | (simp; done) | (simp; omega) | (simp at *; omega)) ?_ | refine ewp_scope ?_ | refine scopeQ_normal ?_ | refine scopeQ_ret ?_ | refine scopeQ_exit ?_ | refine ewp_skip ?_ | refine ewp_block ?_ | refine ewp_exit ?_ | refine ewp_label ?_ | refine thenQ_normal ?_ | refine thenQ_ret ?_ | refine thenQ_exit ?_ | refine blockQ_normal ?_ | refine blockQ_ret ?_ | refine blockQ_here ?_ | refine blockQ_there (by decide) ?_ | refine ewp_ret ?_ | refine opsW_nil ?_ | refine quietW_nil ?_ | (refine run_cond (by simp [heq, hnl2]; exact Gives.mk) (fun hb => ?_) (fun hb => ?_) <;> (try simp at hb)) | fail) | (first | refine run_callW hc (by simp [heq, hnl2]; exact Gives.mk) (by simp [heq, hnl2]; exact Gives.mk) (by simp [heq, hnl2]; exact Gives.mk) (by simp [heq, hnl2]; exact Gives.mk) (by simp [heq, hnl2]; exact Gives.mk) (fun _ => by first | exact trivial) (by simp) (by simp) ?_ | refine run_callQ hc (by simp [heq, hnl2]; exact Gives.mk) (by simp [heq, hnl2]; exact Gives.mk) (by simp [heq, hnl2]; exact Gives.mk) (by simp [heq, hnl2]; exact Gives.mk) (by simp [heq, hnl2]; exact Gives.mk) (fun _ => by first | exact trivial) (by simp) (by simp) ?_ | refine run_ops hc (by simp [heq, hnl2]; first | exact Ends.go | exact Ends.halt) (by decide) (by first | exact True.intro | omega | assumption | (simp; done) | (simp; omega) | (simp at *; omega)) ?_ | refine run_quiet hc (by simp [heq, hnl2]; first | exact Ends.go | exact Ends.halt) (by decide) (by first | exact True.intro | omega | assumption | (simp; done) | (simp; omega) | (simp at *; omega)) ?_ | refine run_regionW hc (by simp [heq, hnl2]; exact Ends.halt) (by first | exact True.intro | omega | assumption | (simp; done) | (simp; omega) | (simp at *; omega)) ?_ | fail))
    all_goals try contradiction
    all_goals try (exfalso; omega)
    (refine run_drawT 25 hc (by kernel_rfl) (by kernel_rfl) ?_; try simp only [List.take_succ_cons, List.take_zero, List.drop_succ_cons, List.drop_zero])
    repeat' (first | (first | refine Ya ?_ | refine Yb ?_ | refine Yc ?_ | refine Yd ?_ | refine Ye ?_ | refine Yf ?_ | refine Yg ?_ | refine Yh ?_ | refine Yi ?_ | refine Yj ?_ | refine Yk ?_ | refine Yl ?_ | refine Ym ?_ | refine Yn ?_ | refine Yo ?_ | refine Yp (h := ?_) | refine Yq ?_ | refine Yr ?_ | refine Ys ?_ | refine Zr hc (hk := ?_) | refine Zd hc (hk := ?_) | (refine Zc (ht := fun hb => ?_) (hf := fun hb => ?_) <;> (try simp at hb)) | fail) | (first | refine Zo hc (hk := ?_) | refine Zu hc (hk := ?_) | refine Ze hc (hk := ?_) | fail))
    all_goals try contradiction
    have m1 : ∀ a b : Int, (if a < b then a else b) = min a b := fun a b => by split <;> omega
    simp only [m1]
    (refine Zl hc (hr := ?_))
    have e := set_cells I w j hlt [str w.1, int (min (I[j]?.getD wnt0).2.1 w.2.1), int (min (I[j]?.getD wnt0).2.2 w.2.2)] (by simp [joinW, wntAt, heq])
    simp only [resD, frD, wntSl, List.length_set]
    rw [e]
  · have hne : ¬ (I[j]?.getD wnt0).1 = w.1 := heq
    have e1 : thereB (keyAt I) I.length w.1 = false := by rw [hth]; simp [heq]
    rw [e1]
    by_cases hfull : 2000 ≤ I.length
    · rw [if_pos (⟨rfl, hfull⟩ : false = false ∧ 2000 ≤ I.length), if_pos (by decide)]
      repeat' (first | (first | refine ewp_seq ?_ | refine run_region hc (by simp [hnl, hne]; exact Ends.go) (by first | exact True.intro | omega | assumption | (simp; done) | (simp; omega) | (simp at *; omega)) ?_ | refine run_draw hc (by kernel_rfl) (by kernel_rfl) (by simp [hnl, hne]; exact Ends.go) (by first | exact True.intro | omega | assumption | (simp; done) | (simp; omega) | (simp at *; omega)) ?_ | refine ewp_scope ?_ | refine scopeQ_normal ?_ | refine scopeQ_ret ?_ | refine scopeQ_exit ?_ | refine ewp_skip ?_ | refine ewp_block ?_ | refine ewp_exit ?_ | refine ewp_label ?_ | refine thenQ_normal ?_ | refine thenQ_ret ?_ | refine thenQ_exit ?_ | refine blockQ_normal ?_ | refine blockQ_ret ?_ | refine blockQ_here ?_ | refine blockQ_there (by decide) ?_ | refine ewp_ret ?_ | refine opsW_nil ?_ | refine quietW_nil ?_ | (refine run_cond (by simp [hnl, hne]; exact Gives.mk) (fun hb => ?_) (fun hb => ?_) <;> (try simp at hb)) | fail) | (first | refine run_callW hc (by simp [hnl, hne]; exact Gives.mk) (by simp [hnl, hne]; exact Gives.mk) (by simp [hnl, hne]; exact Gives.mk) (by simp [hnl, hne]; exact Gives.mk) (by simp [hnl, hne]; exact Gives.mk) (fun _ => by first | exact trivial) (by simp) (by simp) ?_ | refine run_callQ hc (by simp [hnl, hne]; exact Gives.mk) (by simp [hnl, hne]; exact Gives.mk) (by simp [hnl, hne]; exact Gives.mk) (by simp [hnl, hne]; exact Gives.mk) (by simp [hnl, hne]; exact Gives.mk) (fun _ => by first | exact trivial) (by simp) (by simp) ?_ | refine run_ops hc (by simp [hnl, hne]; first | exact Ends.go | exact Ends.halt) (by decide) (by first | exact True.intro | omega | assumption | (simp; done) | (simp; omega) | (simp at *; omega)) ?_ | refine run_quiet hc (by simp [hnl, hne]; first | exact Ends.go | exact Ends.halt) (by decide) (by first | exact True.intro | omega | assumption | (simp; done) | (simp; omega) | (simp at *; omega)) ?_ | refine run_regionW hc (by simp [hnl, hne]; exact Ends.halt) (by first | exact True.intro | omega | assumption | (simp; done) | (simp; omega) | (simp at *; omega)) ?_ | fail))
      all_goals try contradiction
      all_goals try (exact absurd hb.2 hne)
      all_goals try (exfalso; simp_all; done)
      all_goals try (exfalso; omega)
      (refine Zl hc (hr := ?_))
      simp [frNo]
    · rw [if_neg (fun h => hfull h.2 : ¬ (false = false ∧ 2000 ≤ I.length)), if_neg (by decide), if_neg (by decide)]
      repeat' (first | (first | refine ewp_seq ?_ | refine run_region hc (by simp [hnl, hne]; exact Ends.go) (by first | exact True.intro | omega | assumption | (simp; done) | (simp; omega) | (simp at *; omega)) ?_ | refine run_draw hc (by kernel_rfl) (by kernel_rfl) (by simp [hnl, hne]; exact Ends.go) (by first | exact True.intro | omega | assumption | (simp; done) | (simp; omega) | (simp at *; omega)) ?_ | refine ewp_scope ?_ | refine scopeQ_normal ?_ | refine scopeQ_ret ?_ | refine scopeQ_exit ?_ | refine ewp_skip ?_ | refine ewp_block ?_ | refine ewp_exit ?_ | refine ewp_label ?_ | refine thenQ_normal ?_ | refine thenQ_ret ?_ | refine thenQ_exit ?_ | refine blockQ_normal ?_ | refine blockQ_ret ?_ | refine blockQ_here ?_ | refine blockQ_there (by decide) ?_ | refine ewp_ret ?_ | refine opsW_nil ?_ | refine quietW_nil ?_ | (refine run_cond (by simp [hnl, hne]; exact Gives.mk) (fun hb => ?_) (fun hb => ?_) <;> (try simp at hb)) | fail) | (first | refine run_callW hc (by simp [hnl, hne]; exact Gives.mk) (by simp [hnl, hne]; exact Gives.mk) (by simp [hnl, hne]; exact Gives.mk) (by simp [hnl, hne]; exact Gives.mk) (by simp [hnl, hne]; exact Gives.mk) (fun _ => by first | exact trivial) (by simp) (by simp) ?_ | refine run_callQ hc (by simp [hnl, hne]; exact Gives.mk) (by simp [hnl, hne]; exact Gives.mk) (by simp [hnl, hne]; exact Gives.mk) (by simp [hnl, hne]; exact Gives.mk) (by simp [hnl, hne]; exact Gives.mk) (fun _ => by first | exact trivial) (by simp) (by simp) ?_ | refine run_ops hc (by simp [hnl, hne]; first | exact Ends.go | exact Ends.halt) (by decide) (by first | exact True.intro | omega | assumption | (simp; done) | (simp; omega) | (simp at *; omega)) ?_ | refine run_quiet hc (by simp [hnl, hne]; first | exact Ends.go | exact Ends.halt) (by decide) (by first | exact True.intro | omega | assumption | (simp; done) | (simp; omega) | (simp at *; omega)) ?_ | refine run_regionW hc (by simp [hnl, hne]; exact Ends.halt) (by first | exact True.intro | omega | assumption | (simp; done) | (simp; omega) | (simp at *; omega)) ?_ | fail) | ((first | refine run_callM ([(50001, 40001), (50002, 93)]) (hI) hc (by simp [hnl, hne]; exact Gives.mk) (by simp [hnl, hne]; exact Gives.mk) (by simp [hnl, hne]; exact Gives.mk) (by simp [hnl, hne]; exact Gives.mk) (by simp [hnl, hne]; exact Gives.mk) rfl (by simp [hnl, hne]; exact Gives.mk) (by simp [hnl, hne]; exact Gives.mk) rfl (by simp) (by simp) (by simp [hnl, hne]; exact Gives.mk) (by simp [hnl, hne]; exact Gives.mk) ?_ | fail)))
      all_goals try contradiction
      all_goals try (exact absurd hb.2 hne)
      all_goals try (exfalso; simp_all; done)
      all_goals try (exfalso; omega)
      have hm : I.length + 1 ≤ min j I.length + (I.length - j + 1) := by omega
      (refine run_leave hc (by simp [hm]; exact Gives.mk) ?_)
      have e := ins_cells I w j
      simp only [wntAt] at e
      have el : (I.take j ++ w :: I.drop j).length = I.length + 1 := by simp; omega
      simp only [frD, wntSl, el, resD]
      rw [e]
end Go.Proofs.YtnainpghpjelcaaGreatDoor
/-
  FRONTIER: Add, the plain law: items put in one behind the other stand as they stand the other way round.
-/
set_option linter.unusedSimpArgs false
set_option linter.unusedVariables false
namespace Go.Proofs.YtnainpghpjelcaaGreatDoor
open Go.Lw Go.RowKit
set_option maxRecDepth 100000
set_option maxHeartbeats 2000000

theorem bl_asymm {a b : Bs} (h : Op.bytesLess a b = true) : Op.bytesLess b a = false := by
  cases h2 : Op.bytesLess b a with
  | false => rfl
  | true => have := bl_trans h h2; rw [bl_irrefl] at this; cases this
theorem bl_ne {a b : Bs} (h : Op.bytesLess a b = true) : a ≠ b := fun e => by rw [e, bl_irrefl] at h; cases h
/-- An item put in. -/
def putW : List Wnt → Wnt → List Wnt
  | [], w => [w]
  | x :: r, w => if x.1 = w.1 then joinW x w :: r else if Op.bytesLess x.1 w.1 = true then x :: putW r w else w :: x :: r
theorem putW_split : ∀ (A B : List Wnt) (w : Wnt), (∀ x ∈ A, Op.bytesLess x.1 w.1 = true) → putW (A ++ B) w = A ++ putW B w
  | [], B, w, _ => rfl
  | x :: A, B, w, h => by
    have h1 := h x (by simp)
    rw [List.cons_append, putW, if_neg (bl_ne h1), if_pos h1, putW_split A B w fun y hy => h y (by simp [hy])]
    rfl
theorem addI_put (I : List Wnt) (w : Wnt) : addI I w = putW I w := by
  obtain ⟨p1, p2, p3⟩ := lbB_spec (keyAt I) I.length w.1
  unfold addI thereB
  generalize lbB (keyAt I) I.length w.1 = p at p1 p2 p3 ⊢
  have hA : ∀ x ∈ I.take p, Op.bytesLess x.1 w.1 = true := fun x hx => by
    obtain ⟨j, hj⟩ := List.mem_iff_getElem?.1 hx
    rw [List.getElem?_take] at hj
    split at hj
    · rename_i hjp
      have := p2 j hjp
      simp only [keyAt, wntAt, hj, Option.getD_some] at this
      exact this
    · cases hj
  have e : putW I w = I.take p ++ putW (I.drop p) w := by
    rw [← putW_split _ _ _ hA, List.take_append_drop]
  rw [e]
  by_cases hp : p < I.length
  · have hd : I.drop p = I[p] :: I.drop (p + 1) := List.drop_eq_getElem_cons hp
    have hk : keyAt I p = I[p].1 := by simp [keyAt, wntAt, hp]
    have hw : wntAt I p = I[p] := by simp [wntAt, hp]
    have h3 := p3 hp
    rw [hk] at h3
    rw [hd, putW, hk, hw]
    by_cases hx : I[p].1 = w.1
    · rw [if_pos hx, if_pos (by simp [hp, hx]), List.set_eq_take_append_cons_drop, if_pos hp]
    · rw [if_neg hx, if_neg (by simp [hx]), if_neg (by rw [h3]; decide)]
  · have hd : I.drop p = [] := List.drop_eq_nil_of_le (by omega)
    rw [hd, if_neg (by simp [hp])]
    rfl
theorem min_assoc3 (a b c : Int) : min (min a b) c = min (min a c) b := by omega
theorem join_comm3 (x a b : Wnt) : joinW (joinW x a) b = joinW (joinW x b) a := by
  simp only [joinW]
  rw [min_assoc3 x.2.1, min_assoc3 x.2.2]
theorem join_comm {a b : Wnt} (h : a.1 = b.1) : joinW a b = joinW b a := by
  simp only [joinW]
  rw [h, Int.min_comm, Int.min_comm a.2.2]
@[simp] theorem joinW_fst (a b : Wnt) : (joinW a b).1 = a.1 := rfl
theorem put_two {a b : Wnt} (r : List Wnt) (h : Op.bytesLess a.1 b.1 = true) : putW (b :: r) a = a :: b :: r := by
  rw [putW, if_neg (fun e => bl_ne h e.symm), if_neg (by rw [bl_asymm h]; decide)]
theorem put_less {x w : Wnt} (r : List Wnt) (h : Op.bytesLess x.1 w.1 = true) : putW (x :: r) w = x :: putW r w := by
  rw [putW, if_neg (bl_ne h), if_pos h]
theorem put_same {x w : Wnt} (r : List Wnt) (h : x.1 = w.1) : putW (x :: r) w = joinW x w :: r := by
  rw [putW, if_pos h]
theorem three (a b : Bs) : Op.bytesLess a b = true ∨ a = b ∨ Op.bytesLess b a = true := by
  cases h : Op.bytesLess a b with
  | true => exact .inl rfl
  | false =>
    by_cases e : a = b
    · exact .inr (.inl e)
    · exact .inr (.inr (bl_total h e))
theorem put_comm : ∀ (I : List Wnt) (a b : Wnt), putW (putW I a) b = putW (putW I b) a
  | [], a, b => by
    simp only [putW]
    rcases three a.1 b.1 with h | h | h
    · rw [if_neg (bl_ne h), if_pos h, if_neg (fun e => bl_ne h e.symm), if_neg (by rw [bl_asymm h]; decide)]
    · rw [if_pos h, if_pos h.symm, join_comm h]
    · rw [if_neg (fun e => bl_ne h e.symm), if_neg (by rw [bl_asymm h]; decide), if_neg (bl_ne h), if_pos h]
  | x :: r, a, b => by
    rcases three x.1 a.1 with ha | ha | ha <;> rcases three x.1 b.1 with hb | hb | hb
    · rw [put_less r ha, put_less r hb, put_less _ hb, put_less _ ha, put_comm r a b]
    · rw [put_less r ha, put_same r hb, put_same _ hb, put_less r (by simpa using ha)]
    · rw [put_less r ha, put_two r hb, put_two _ hb, put_less _ (bl_trans hb ha), put_less r ha]
    · rw [put_same r ha, put_less r hb, put_less r (by simpa using hb), put_same _ ha]
    · rw [put_same r ha, put_same r hb, put_same r (by simpa using hb), put_same r (by simpa using ha), join_comm3]
    · rw [put_same r ha, put_two r hb, put_two r (by simpa using hb), put_less _ (by rw [← ha]; exact hb), put_same r ha]
    · rw [put_two r ha, put_less r hb, put_less _ (bl_trans ha hb), put_less r hb, put_two _ ha]
    · rw [put_two r ha, put_same r hb, put_less _ (by rw [← hb]; exact ha), put_same r hb, put_two r (by simpa using ha)]
    · rw [put_two r ha, put_two r hb]
      rcases three a.1 b.1 with h | h | h
      · rw [put_less _ h, put_two r hb, put_two _ h]
      · rw [put_same _ h, put_same _ h.symm, join_comm h]
      · rw [put_two _ h, put_less _ h, put_two r ha]
/-- Items that stand in order. -/
def srtW (I : List Wnt) : Prop := I.Pairwise fun a b => Op.bytesLess a.1 b.1 = true
theorem srt_of {I : List Wnt} (h : ascB (keyAt I) I.length) : srtW I := by
  refine List.pairwise_iff_getElem.2 fun i j hi hj hij => ?_
  have := h i j hij hj
  simpa [keyAt, wntAt, hi, hj] using this
def hasK (I : List Wnt) (k : Bs) : Prop := ∃ x ∈ I, x.1 = k
theorem put_len_old : ∀ {I : List Wnt} {w : Wnt}, srtW I → hasK I w.1 → (putW I w).length = I.length
  | [], w, _, h => by obtain ⟨_, h, _⟩ := h; cases h
  | x :: r, w, h, hk => by
    obtain ⟨h1, h2⟩ := List.pairwise_cons.1 h
    rcases three x.1 w.1 with h3 | h3 | h3
    · rw [put_less r h3, List.length_cons, put_len_old h2 ?_, List.length_cons]
      obtain ⟨y, hy, he⟩ := hk
      rcases List.mem_cons.1 hy with rfl | hy
      · exact absurd he (bl_ne h3)
      · exact ⟨y, hy, he⟩
    · rw [put_same r h3]; rfl
    · exfalso
      obtain ⟨y, hy, he⟩ := hk
      rcases List.mem_cons.1 hy with rfl | hy
      · exact bl_ne h3 he.symm
      · exact bl_ne (bl_trans h3 (h1 y hy)) he.symm
theorem put_len_new : ∀ {I : List Wnt} {w : Wnt}, ¬ hasK I w.1 → (putW I w).length = I.length + 1
  | [], w, _ => rfl
  | x :: r, w, hk => by
    rcases three x.1 w.1 with h3 | h3 | h3
    · rw [put_less r h3, List.length_cons, put_len_new fun ⟨y, hy, he⟩ => hk ⟨y, by simp [hy], he⟩]
      rfl
    · exact absurd ⟨x, by simp, h3⟩ hk
    · rw [put_two r h3]; rfl
theorem put_mem : ∀ (I : List Wnt) (w : Wnt) (y : Wnt), y ∈ putW I w → y ∈ I ∨ y = w ∨ ∃ x ∈ I, y = joinW x w
  | [], w, y, h => by simp [putW] at h; simp [h]
  | x :: r, w, y, h => by
    rcases three x.1 w.1 with h3 | h3 | h3
    · rw [put_less r h3] at h
      rcases List.mem_cons.1 h with rfl | h
      · simp
      · rcases put_mem r w y h with h | h | ⟨z, hz, h⟩
        · simp [h]
        · simp [h]
        · exact .inr (.inr ⟨z, by simp [hz], h⟩)
    · rw [put_same r h3] at h
      rcases List.mem_cons.1 h with rfl | h
      · exact .inr (.inr ⟨x, by simp, rfl⟩)
      · simp [h]
    · rw [put_two r h3] at h
      rcases List.mem_cons.1 h with rfl | h
      · simp
      · exact .inl h
theorem there_has {I : List Wnt} (h : ascB (keyAt I) I.length) (k : Bs) : thereB (keyAt I) I.length k = true ↔ hasK I k := by
  constructor
  · intro ht
    unfold thereB at ht
    simp only [Bool.and_eq_true, decide_eq_true_eq] at ht
    refine ⟨wntAt I (lbB (keyAt I) I.length k), ?_, ht.2⟩
    simp only [wntAt, List.getElem?_eq_getElem ht.1, Option.getD_some]
    exact List.getElem_mem ht.1
  · rintro ⟨x, hx, rfl⟩
    obtain ⟨j, hj⟩ := List.mem_iff_getElem?.1 hx
    have hl : j < I.length := (List.getElem?_eq_some_iff.1 hj).1
    have hk : keyAt I j = x.1 := by simp [keyAt, wntAt, hj]
    have e : lbB (keyAt I) I.length x.1 = j := lbB_of (by omega) (fun i hi => by rw [← hk]; exact h i j hi hl) (fun _ => by rw [hk]; exact bl_irrefl _)
    unfold thereB
    rw [e]
    simp [hl, hk]
/-! What is right has no fault. -/
theorem mem_wnt {L : List Wnt} {p : Wnt → Prop} : (∀ j, j < L.length → p (wntAt L j)) ↔ ∀ x ∈ L, p x := by
  constructor
  · intro h x hx
    obtain ⟨j, hj⟩ := List.mem_iff_getElem?.1 hx
    have := h j (List.getElem?_eq_some_iff.1 hj).1
    simpa [wntAt, hj] using this
  · intro h j hj
    simp only [wntAt, List.getElem?_eq_getElem hj, Option.getD_some]
    exact h _ (List.getElem_mem hj)
theorem add_frOk {f : Frt} {w : Wnt} (hf : FrOk f) (hg : FrGood f) (hw : w.1.length ≤ 140737488351232) : FrOk { f with items := addI f.items w } := by
  rw [addI_put]
  refine ⟨?_, hf.hosts, fun j => ?_, hf.names, hf.starts⟩
  · show (putW f.items w).length ≤ _
    have := hg.items
    by_cases h : hasK f.items w.1
    · rw [put_len_old (srt_of hg.keys) h]; omega
    · rw [put_len_new h]; omega
  · show (wntAt (putW f.items w) j).1.length ≤ _
    rcases Nat.lt_or_ge j (putW f.items w).length with hj | hj
    · refine (mem_wnt (p := fun x => x.1.length ≤ 140737488351232)).2 (fun x hx => ?_) j hj
      have h0 : ∀ x ∈ f.items, x.1.length ≤ 140737488351232 := (mem_wnt (p := fun x => x.1.length ≤ 140737488351232)).1 fun j _ => hf.keys j
      rcases put_mem _ _ _ hx with h | h | ⟨y, hy, h⟩
      · exact h0 x h
      · rw [h]; exact hw
      · rw [h]; exact h0 y hy
    · simp [wntAt, List.getElem?_eq_none hj]
/-- What Add says. -/
theorem addE_zero {f : Frt} {w : Wnt} (h : addE f w = 0) : frE f = 0 ∧ wntE w = 0 ∧ (addI f.items w).length ≤ 2000 := by
  unfold addE at h
  by_cases h1 : frE f = 0
  · rw [if_neg (fun e => e h1)] at h
    by_cases h2 : wntE w = 0
    · rw [if_neg (fun e => e h2)] at h
      have hg := frE_good h1
      refine ⟨h1, h2, ?_⟩
      rw [addI_put]
      have hi := hg.items
      by_cases h3 : hasK f.items w.1
      · rw [put_len_old (srt_of hg.keys) h3]; exact hi
      · rw [put_len_new h3]
        rcases Nat.lt_or_ge f.items.length 2000 with h4 | h4
        · omega
        · rw [if_pos ⟨Bool.eq_false_iff.2 fun e => h3 ((there_has hg.keys _).1 e), h4⟩] at h
          cases h
    · rw [if_pos h2] at h; exact absurd h h2
  · rw [if_pos h1] at h; exact absurd h h1
end Go.Proofs.YtnainpghpjelcaaGreatDoor
/-
  FRONTIER: the reference's Drop; FrontierAddsMatchSpec's own walk. (WITH run_drawN.)
-/
set_option linter.unusedSimpArgs false
set_option linter.unusedVariables false
namespace Go.Proofs.YtnainpghpjelcaaGreatDoor
open Go.Lw Go.RowKit
set_option maxRecDepth 100000
set_option maxHeartbeats 4000000

theorem qFrDrop_ok (f : Frt) (L : List Scp) (hf : FrOk f) (hL : L.length ≤ 9223372036854775807) (hn : ∀ j, (scpAt L j).2.1.length ≤ 9223372036854775807) : FnOk Tryz.prog 43 [frD f, scpSl L] (dropD f L) := by
  refine fnOk Tryz.func43 rfl (by kernel_rfl) Tryz.ntmps43 _ rfl (by simp) fun C hc => ?_
  have hF := qCheckFr_ok f hf
  have hS := qCheckScopes_ok L hL hn
  unfold dropD
  by_cases he : frE f = 0
  rotate_left
  · rw [if_pos he]
    generalize frE f = e at hF he ⊢
    repeat' (first | (first | refine Ya ?_ | refine Yb ?_ | refine Yc ?_ | refine Yd ?_ | refine Ye ?_ | refine Yf ?_ | refine Yg ?_ | refine Yh ?_ | refine Yi ?_ | refine Yj ?_ | refine Yk ?_ | refine Yl ?_ | refine Ym ?_ | refine Yn ?_ | refine Yo ?_ | refine Yp (h := ?_) | refine Yq ?_ | refine Yr ?_ | refine Ys ?_ | refine Zr hc (hk := ?_) | refine Zd hc (hk := ?_) | (refine Zc (ht := fun hb => ?_) (hf := fun hb => ?_) <;> (try simp at hb)) | fail) | (first | refine Zw hc (hf := by exact hF) (hk := ?_) | refine Zq hc (hf := by exact hF) (hk := ?_) | refine Zo hc (hk := ?_) | refine Zu hc (hk := ?_) | refine Ze hc (hk := ?_) | fail))
    all_goals try contradiction
    (refine Zl hc (hr := ?_))
    simp [frNo]
  have hg := frE_good he
  rw [if_neg (fun e => e he)]
  rw [he] at hF
  by_cases he2 : scpC L = 0
  rotate_left
  · rw [if_pos he2]
    generalize scpC L = e at hS he2 ⊢
    repeat' (first | (first | refine Ya ?_ | refine Yb ?_ | refine Yc ?_ | refine Yd ?_ | refine Ye ?_ | refine Yf ?_ | refine Yg ?_ | refine Yh ?_ | refine Yi ?_ | refine Yj ?_ | refine Yk ?_ | refine Yl ?_ | refine Ym ?_ | refine Yn ?_ | refine Yo ?_ | refine Yp (h := ?_) | refine Yq ?_ | refine Yr ?_ | refine Ys ?_ | refine Zr hc (hk := ?_) | refine Zd hc (hk := ?_) | (refine Zc (ht := fun hb => ?_) (hf := fun hb => ?_) <;> (try simp at hb)) | fail) | (first | refine Zw hc (hf := by first | exact hF | exact hS) (hk := ?_) | refine Zq hc (hf := by first | exact hF | exact hS) (hk := ?_) | refine Zo hc (hk := ?_) | refine Zu hc (hk := ?_) | refine Ze hc (hk := ?_) | fail))
    all_goals try contradiction
    (refine Zl hc (hr := ?_))
    simp [frNo]
  rw [if_neg (fun e => e he2)]
  rw [he2] at hS
  have hOwn := copied_ok f hg.items hg.hosts
  unfold owV at hOwn
  have hIn := fun j => inScopeQ_ok L (wntAt f.items j).1 hL hn (by have := hf.keys j; omega)
  have hl := hg.items
  unfold dropI
  clear hf hg he he2
  obtain ⟨I, H, bu, wi⟩ := f
  simp only at hOwn hF hIn hl ⊢
  repeat' (first | (first | refine Ya ?_ | refine Yb ?_ | refine Yc ?_ | refine Yd ?_ | refine Ye ?_ | refine Yf ?_ | refine Yg ?_ | refine Yh ?_ | refine Yi ?_ | refine Yj ?_ | refine Yk ?_ | refine Yl ?_ | refine Ym ?_ | refine Yn ?_ | refine Yo ?_ | refine Yp (h := ?_) | refine Yq ?_ | refine Yr ?_ | refine Ys ?_ | refine Zr hc (hk := ?_) | refine Zd hc (hk := ?_) | (refine Zc (ht := fun hb => ?_) (hf := fun hb => ?_) <;> (try simp at hb)) | fail) | (first | refine Zw hc (hf := by first | exact hF | exact hS) (hk := ?_) | refine Zq hc (hf := by first | exact hF | exact hS) (hk := ?_) | refine Zo hc (hk := ?_) | refine Zu hc (hk := ?_) | refine Ze hc (hk := ?_) | fail) | ((first | refine run_callM ([(40001, 40001), (40002, 40002)]) (hOwn) hc (by simp; exact Gives.mk) (by simp; exact Gives.mk) (by simp; exact Gives.mk) (by simp; exact Gives.mk) (by simp; exact Gives.mk) rfl (by simp; exact Gives.mk) (by simp; exact Gives.mk) rfl (by simp) (by simp) (by simp; exact Gives.mk) (by simp; exact Gives.mk) ?_ | fail)))
  all_goals try contradiction
  clear hOwn hF hS
  refine ewp_loop (fun j : Nat => ⟨[(1, .d (scpSl L)), (4, .bp 4 0), (8, .bp 8 0), (29, .d (wntSl I)), (30, .d (int I.length)), (31, .d (int j))],
      [(4, .box 25 [.d (.lit (.slice none 0 0)), .d (.lit (.slice none 0 0)), .d (int 0), .d (int 0)]), (8, .box 25 [.os 40003 ((I.take j).filter fun x => (inC L x.1).1).length, .os 40002 H.length, .d (int bu), .d (int wi)]), owH H, (40003, .own 35 3 (true, noWnt) (((I.take j).filter fun x => (inC L x.1).1).map wntCells))]⟩)
    (fun j => j ≤ I.length) (fun j => I.length - j) 0 (Nat.zero_le _) (run_keepB [(8, some 0, 40003, 35, noWnt)] [1, 4, 8, 29, 30, 31] [4, 8, 40002, 40003] (by simp; exact Gives.mk) (by simp; exact Gives.mk) (by simp; exact Gives.mk)) ?_
  intro j hj
  have hfl : ((I.take j).filter fun x => (inC L x.1).1).length ≤ 2000 := Nat.le_trans (List.length_filter_le _ _) (by rw [List.length_take]; omega)
  by_cases hlt : j < I.length
  · have hn := take_filter_next (fun x => (inC L x.1).1) hlt
    have hIn := hIn j
    generalize inC L (wntAt I j).1 = r at hIn hn
    obtain ⟨r1, r2⟩ := r
    simp only at hIn hn
    generalize hK : (I.take j).filter (fun x => (inC L x.1).1) = K at hn hfl ⊢
    repeat' (first | (first | refine Ya ?_ | refine Yb ?_ | refine Yc ?_ | refine Yd ?_ | refine Ye ?_ | refine Yf ?_ | refine Yg ?_ | refine Yh ?_ | refine Yi ?_ | refine Yj ?_ | refine Yk ?_ | refine Yl ?_ | refine Ym ?_ | refine Yn ?_ | refine Yo ?_ | refine Yp (h := ?_) | refine Yq ?_ | refine Yr ?_ | refine Ys ?_ | refine Zr hc (hk := ?_) | refine Zd hc (hk := ?_) | (refine Zc (ht := fun hb => ?_) (hf := fun hb => ?_) <;> (try simp at hb)) | fail) | (first | refine Zw hc (hf := by exact hIn) (hk := ?_) | refine Zq hc (hf := by exact hIn) (hk := ?_) | refine Zo hc (hk := ?_) | refine Zu hc (hk := ?_) | refine Ze hc (hk := ?_) | fail))
    all_goals try contradiction
    all_goals try (exfalso; omega)
    · rw [if_pos hb] at hn
      exact ⟨j + 1, by omega, by omega, run_back [1, 4, 8, 29, 30, 31] [4, 8, 40002, 40003] (by simp; exact Gives.mk) (by simp; exact Gives.mk) (by simp [hn])⟩
    · rw [if_neg (by simp [hb]), List.append_nil] at hn
      exact ⟨j + 1, by omega, by omega, run_back [1, 4, 8, 29, 30, 31] [4, 8, 40002, 40003] (by simp; exact Gives.mk) (by simp; exact Gives.mk) (by simp [hn])⟩
  · obtain rfl : j = I.length := by omega
    rw [List.take_length] at hfl ⊢
    generalize I.filter (fun x => (inC L x.1).1) = K at hfl ⊢
    repeat' (first | (first | refine Ya ?_ | refine Yb ?_ | refine Yc ?_ | refine Yd ?_ | refine Ye ?_ | refine Yf ?_ | refine Yg ?_ | refine Yh ?_ | refine Yi ?_ | refine Yj ?_ | refine Yk ?_ | refine Yl ?_ | refine Ym ?_ | refine Yn ?_ | refine Yo ?_ | refine Yp (h := ?_) | refine Yq ?_ | refine Yr ?_ | refine Ys ?_ | refine Zr hc (hk := ?_) | refine Zd hc (hk := ?_) | (refine Zc (ht := fun hb => ?_) (hf := fun hb => ?_) <;> (try simp at hb)) | fail) | (first | refine Zo hc (hk := ?_) | refine Zu hc (hk := ?_) | refine Ze hc (hk := ?_) | fail))
    all_goals try contradiction
    all_goals try (exfalso; omega)
    (refine Zl hc (hr := ?_))
    simp only [resD, frD, wntSl]
theorem addD_cases (f : Frt) (w : Wnt) (hf : FrOk f) (hw : w.1.length ≤ 140737488351232) : ∃ (g : Option Frt) (e : Nat), (∀ x, g = some x → FrOk x) ∧ addD f w = .tup [match g with | some x => frD x | none => frNo, int e] := by
  unfold addD
  by_cases h : addE f w = 0
  · rw [if_neg (fun e => e h)]
    exact ⟨some _, 0, fun x hx => by cases hx; exact add_frOk hf (frE_good (addE_zero h).1) hw, rfl⟩
  · rw [if_pos h]
    exact ⟨none, _, fun x hx => (by cases hx), rfl⟩
theorem dropD_cases (f : Frt) (L : List Scp) (hf : FrOk f) : ∃ (g : Option Frt) (e : Nat), (∀ x, g = some x → FrOk x) ∧ dropD f L = .tup [match g with | some x => frD x | none => frNo, int e] := by
  unfold dropD
  split
  · exact ⟨none, _, fun x hx => (by cases hx), rfl⟩
  · split
    · exact ⟨none, _, fun x hx => (by cases hx), rfl⟩
    · refine ⟨some _, 0, fun x hx => ?_, rfl⟩
      cases hx
      have hle : (dropI f L).length ≤ f.items.length := List.length_filter_le _ _
      refine ⟨by show (dropI f L).length ≤ _; have := hf.items; omega, hf.hosts, fun j => ?_, hf.names, hf.starts⟩
      show (wntAt (dropI f L) j).1.length ≤ _
      rcases Nat.lt_or_ge j (dropI f L).length with hj | hj
      · refine (mem_wnt (p := fun x => x.1.length ≤ 140737488351232)).2 (fun x hx => ?_) j hj
        exact (mem_wnt (p := fun x => x.1.length ≤ 140737488351232)).1 (fun j _ => hf.keys j) x (List.mem_filter.1 hx).1
      · simp [wntAt, List.getElem?_eq_none hj]
theorem addsSpec_ok (f : Frt) (w : Wnt) (L : List Scp) (hf : FrOk f) (hw : w.1.length ≤ 140737488351232) (hL : L.length ≤ 9223372036854775807) (hn : ∀ j, (scpAt L j).2.1.length ≤ 9223372036854775807) : FnOk Tryz.prog 11 [frD f, wntD w, scpSl L] (tru true) := by
  refine fnOk Tryz.func11 rfl (by kernel_rfl) Tryz.ntmps11 _ rfl (by simp) fun C hc => ?_
  have h1 := frAdd_ok f w hf (by omega)
  have h2 := qFrAdd_ok f w hf (by omega)
  have h3 := checkFr_ok f hf
  have h4 := qCheckFr_ok f hf
  have h5 := frDrop_ok f L hf hL hn
  have h6 := qFrDrop_ok f L hf hL hn
  obtain ⟨g1, e1, k1, r1⟩ := addD_cases f w hf hw
  obtain ⟨g2, e2, k2, r2⟩ := dropD_cases f L hf
  rw [r1] at h1 h2
  rw [r2] at h5 h6
  generalize frE f = e3 at h3 h4
  have hN := sameNo_ok
  cases g1 <;> cases g2
  · simp only at h1 h2 h5 h6
    unfold frNo at h1 h2 h5 h6 hN
    repeat' (first | (first | refine Ya ?_ | refine Yb ?_ | refine Yc ?_ | refine Yd ?_ | refine Ye ?_ | refine Yf ?_ | refine Yg ?_ | refine Yh ?_ | refine Yi ?_ | refine Yj ?_ | refine Yk ?_ | refine Yl ?_ | refine Ym ?_ | refine Yn ?_ | refine Yo ?_ | refine Yp (h := ?_) | refine Yq ?_ | refine Yr ?_ | refine Ys ?_ | refine Zr hc (hk := ?_) | refine Zd hc (hk := ?_) | (refine Zc (ht := fun hb => ?_) (hf := fun hb => ?_) <;> (try simp at hb)) | fail) | (first | refine Zw hc (hf := by first | exact h1 | exact h2 | exact h3 | exact h4 | exact h5 | exact h6 | exact hN | exact awake5_ok) (hk := ?_) | refine Zq hc (hf := by first | exact h1 | exact h2 | exact h3 | exact h4 | exact h5 | exact h6 | exact hN | exact awake5_ok) (hk := ?_) | refine Zo hc (hk := ?_) | refine Zu hc (hk := ?_) | refine Ze hc (hk := ?_) | refine Zn hc (hk := ?_) | fail))
    all_goals try contradiction
    all_goals (refine Zl hc (hr := ?_))
    all_goals simp
  · rename_i x2
    have s2 := same_ok x2 (k2 x2 rfl)
    simp only at h1 h2 h5 h6
    unfold frNo at h1 h2 hN
    repeat' (first | (first | refine Ya ?_ | refine Yb ?_ | refine Yc ?_ | refine Yd ?_ | refine Ye ?_ | refine Yf ?_ | refine Yg ?_ | refine Yh ?_ | refine Yi ?_ | refine Yj ?_ | refine Yk ?_ | refine Yl ?_ | refine Ym ?_ | refine Yn ?_ | refine Yo ?_ | refine Yp (h := ?_) | refine Yq ?_ | refine Yr ?_ | refine Ys ?_ | refine Zr hc (hk := ?_) | refine Zd hc (hk := ?_) | (refine Zc (ht := fun hb => ?_) (hf := fun hb => ?_) <;> (try simp at hb)) | fail) | (first | refine Zw hc (hf := by first | exact h1 | exact h2 | exact h3 | exact h4 | exact h5 | exact h6 | exact hN | exact s2 | exact awake5_ok) (hk := ?_) | refine Zq hc (hf := by first | exact h1 | exact h2 | exact h3 | exact h4 | exact h5 | exact h6 | exact hN | exact s2 | exact awake5_ok) (hk := ?_) | refine Zo hc (hk := ?_) | refine Zu hc (hk := ?_) | refine Ze hc (hk := ?_) | refine Zn hc (hk := ?_) | fail))
    all_goals try contradiction
    all_goals (refine Zl hc (hr := ?_))
    all_goals simp
  · rename_i x1
    have s1 := same_ok x1 (k1 x1 rfl)
    simp only at h1 h2 h5 h6
    unfold frNo at h5 h6 hN
    repeat' (first | (first | refine Ya ?_ | refine Yb ?_ | refine Yc ?_ | refine Yd ?_ | refine Ye ?_ | refine Yf ?_ | refine Yg ?_ | refine Yh ?_ | refine Yi ?_ | refine Yj ?_ | refine Yk ?_ | refine Yl ?_ | refine Ym ?_ | refine Yn ?_ | refine Yo ?_ | refine Yp (h := ?_) | refine Yq ?_ | refine Yr ?_ | refine Ys ?_ | refine Zr hc (hk := ?_) | refine Zd hc (hk := ?_) | (refine Zc (ht := fun hb => ?_) (hf := fun hb => ?_) <;> (try simp at hb)) | fail) | (first | refine Zw hc (hf := by first | exact h1 | exact h2 | exact h3 | exact h4 | exact h5 | exact h6 | exact hN | exact s1 | exact awake5_ok) (hk := ?_) | refine Zq hc (hf := by first | exact h1 | exact h2 | exact h3 | exact h4 | exact h5 | exact h6 | exact hN | exact s1 | exact awake5_ok) (hk := ?_) | refine Zo hc (hk := ?_) | refine Zu hc (hk := ?_) | refine Ze hc (hk := ?_) | refine Zn hc (hk := ?_) | fail))
    all_goals try contradiction
    all_goals (refine Zl hc (hr := ?_))
    all_goals simp
  · rename_i x1 x2
    have s1 := same_ok x1 (k1 x1 rfl)
    have s2 := same_ok x2 (k2 x2 rfl)
    simp only at h1 h2 h5 h6
    repeat' (first | (first | refine Ya ?_ | refine Yb ?_ | refine Yc ?_ | refine Yd ?_ | refine Ye ?_ | refine Yf ?_ | refine Yg ?_ | refine Yh ?_ | refine Yi ?_ | refine Yj ?_ | refine Yk ?_ | refine Yl ?_ | refine Ym ?_ | refine Yn ?_ | refine Yo ?_ | refine Yp (h := ?_) | refine Yq ?_ | refine Yr ?_ | refine Ys ?_ | refine Zr hc (hk := ?_) | refine Zd hc (hk := ?_) | (refine Zc (ht := fun hb => ?_) (hf := fun hb => ?_) <;> (try simp at hb)) | fail) | (first | refine Zw hc (hf := by first | exact h1 | exact h2 | exact h3 | exact h4 | exact h5 | exact h6 | exact s1 | exact s2 | exact awake5_ok) (hk := ?_) | refine Zq hc (hf := by first | exact h1 | exact h2 | exact h3 | exact h4 | exact h5 | exact h6 | exact s1 | exact s2 | exact awake5_ok) (hk := ?_) | refine Zo hc (hk := ?_) | refine Zu hc (hk := ?_) | refine Ze hc (hk := ?_) | refine Zn hc (hk := ?_) | fail))
    all_goals try contradiction
    all_goals (refine Zl hc (hr := ?_))
    all_goals simp
theorem addsSpecF_ok (f : Frt) (w : Wnt) (L : List Scp) (hf : FrFits f) (hw : WntFits w) (hL : ScpsFit L) : FnOk Tryz.prog 11 [frD f, wntD w, scpSl L] (tru true) :=
  addsSpec_ok f w L (frOk_of hf) (by have h := hw.1; simp only [reachBytes] at h; omega) (by have := hL.1.1; simp only [maxLen] at this; omega) (scp_atL hL.1.2)
end Go.Proofs.YtnainpghpjelcaaGreatDoor
