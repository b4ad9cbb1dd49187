/-
  CHAPTER 1's REFERENCE: Relative; AddressRelativesMatchSpec's own walk. (WITH run_drawN.)
-/
import Derived.Test.YtglonkenckigiaaGreatDoorQB
import Derived.Test.YtglonkenckigiaaGreatDoorQC
import Derived.Test.YtglonkenckigiaaGreatDoorAdO
set_option linter.unusedSimpArgs false
set_option linter.unusedVariables false
namespace Go.Proofs.YtglonkenckigiaaGreatDoor
open Go.Lw Go.RowKit
set_option maxRecDepth 100000
set_option maxHeartbeats 1000000

theorem qDots0_ok : FnOk Tryz.prog 42 [str []] (str []) := by
  refine fnOk Tryz.func42 rfl (by kernel_rfl) Tryz.ntmps42 _ rfl (by simp) fun C hc => ?_
  repeat' (first | (first | refine Ya ?_ | refine Yb ?_ | refine Yc ?_ | refine Yd ?_ | refine Ye ?_ | refine Yf ?_ | refine Yg ?_ | refine Yh ?_ | refine Yi ?_ | refine Yj ?_ | refine Yk ?_ | refine Yl ?_ | refine Ym ?_ | refine Yn ?_ | refine Yo ?_ | refine Yp (h := ?_) | refine Yq ?_ | refine Yr ?_ | refine Ys ?_ | refine Zr hc (hk := ?_) | refine Zd hc (hk := ?_) | (refine Zc (ht := fun hb => ?_) (hf := fun hb => ?_) <;> (try simp at hb)) | fail) | (first | refine Zo hc (hk := ?_) | refine Zu hc (hk := ?_) | refine Ze hc (hk := ?_) | refine Zn hc (hk := ?_) | fail))
  all_goals try contradiction
  (refine Zl hc (hr := ?_))
  simp
theorem qDotsA_ok (p : Bs) (h : p = [] ∨ p[0]? = some 47) (hm : p.length ≤ 100000) : FnOk Tryz.prog 42 [str p] (str (undotP p)) := by
  cases p with
  | nil => exact qDots0_ok
  | cons c r =>
    have e : c = 47 := by
      rcases h with h | h
      · cases h
      · simpa using h
    subst e
    exact qDots_ok r (by simp at hm; omega)
theorem head_text (a : Adr) : writeA a = writeA ⟨a.scheme, a.host, a.port, [], [], false, [], false⟩ ++ behindA a := by
  simp [writeA, behindA, pPart, qPart, fPart]
theorem qRelative_ok (b a : Adr) (hbF : b.Fits) (haF : a.Fits) : FnOk Tryz.prog 13 [adrD b, adrD a] (.tup [str (relC b a).1, int (relC b a).2]) := by
  refine fnOk Tryz.func13 rfl (by kernel_rfl) Tryz.ntmps13 _ rfl (by simp) fun C hc => ?_
  have hCb := qCheck_ok b hbF
  have hCa := qCheck_ok a haF
  unfold relC
  by_cases h1 : chkC b = 0
  rotate_left
  · rw [if_pos h1]
    repeat' (first | (first | refine Ya ?_ | refine Yb ?_ | refine Yc ?_ | refine Yd ?_ | refine Ye ?_ | refine Yf ?_ | refine Yg ?_ | refine Yh ?_ | refine Yi ?_ | refine Yj ?_ | refine Yk ?_ | refine Yl ?_ | refine Ym ?_ | refine Yn ?_ | refine Yo ?_ | refine Yp (h := ?_) | refine Yq ?_ | refine Yr ?_ | refine Ys ?_ | refine Zr hc (hk := ?_) | refine Zd hc (hk := ?_) | (refine Zc (ht := fun hb => ?_) (hf := fun hb => ?_) <;> (try simp at hb)) | fail) | (first | refine Zw hc (hf := by exact hCb) (hk := ?_) | refine Zq hc (hf := by exact hCb) (hk := ?_) | refine Zo hc (hk := ?_) | refine Zu hc (hk := ?_) | refine Ze hc (hk := ?_) | refine Zn hc (hk := ?_) | fail))
    all_goals try contradiction
    (refine Zl hc (hr := ?_))
    simp
  rw [if_neg (fun h => h h1)]
  rw [h1] at hCb
  by_cases h2 : chkC a = 0
  rotate_left
  · rw [if_pos h2]
    repeat' (first | (first | refine Ya ?_ | refine Yb ?_ | refine Yc ?_ | refine Yd ?_ | refine Ye ?_ | refine Yf ?_ | refine Yg ?_ | refine Yh ?_ | refine Yi ?_ | refine Yj ?_ | refine Yk ?_ | refine Yl ?_ | refine Ym ?_ | refine Yn ?_ | refine Yo ?_ | refine Yp (h := ?_) | refine Yq ?_ | refine Yr ?_ | refine Ys ?_ | refine Zr hc (hk := ?_) | refine Zd hc (hk := ?_) | (refine Zc (ht := fun hb => ?_) (hf := fun hb => ?_) <;> (try simp at hb)) | fail) | (first | refine Zw hc (hf := by first | exact hCb | exact hCa) (hk := ?_) | refine Zq hc (hf := by first | exact hCb | exact hCa) (hk := ?_) | refine Zo hc (hk := ?_) | refine Zu hc (hk := ?_) | refine Ze hc (hk := ?_) | refine Zn hc (hk := ?_) | fail))
    all_goals try contradiction
    (refine Zl hc (hr := ?_))
    simp
  rw [if_neg (fun h => h h2)]
  rw [h2] at hCa
  obtain ⟨hA, hl⟩ := (chk_iff a).1 h2
  have hl2 := hl
  rw [write_parts] at hl
  have hUn := qDotsA_ok a.path hA.slash (by omega)
  by_cases h3 : undotP a.path = a.path
  rotate_left
  · rw [if_pos h3]
    repeat' (first | (first | refine Ya ?_ | refine Yb ?_ | refine Yc ?_ | refine Yd ?_ | refine Ye ?_ | refine Yf ?_ | refine Yg ?_ | refine Yh ?_ | refine Yi ?_ | refine Yj ?_ | refine Yk ?_ | refine Yl ?_ | refine Ym ?_ | refine Yn ?_ | refine Yo ?_ | refine Yp (h := ?_) | refine Yq ?_ | refine Yr ?_ | refine Ys ?_ | refine Zr hc (hk := ?_) | refine Zd hc (hk := ?_) | (refine Zc (ht := fun hb => ?_) (hf := fun hb => ?_) <;> (try simp at hb)) | fail) | (first | refine Zw hc (hf := by first | exact hCb | exact hCa | exact hUn) (hk := ?_) | refine Zq hc (hf := by first | exact hCb | exact hCa | exact hUn) (hk := ?_) | refine Zo hc (hk := ?_) | refine Zu hc (hk := ?_) | refine Ze hc (hk := ?_) | refine Zn hc (hk := ?_) | fail))
    all_goals try contradiction
    (refine Zl hc (hr := ?_))
    simp
  rw [if_neg (fun h => h h3)]
  rw [h3] at hUn
  have hW := qWritten_ok a haF
  have hWh := qWritten_ok ⟨a.scheme, a.host, a.port, [], [], false, [], false⟩ ⟨haF.scheme, haF.host, haF.port, by simp, by simp, by simp⟩
  have hht := head_text a
  have hPr := hasPrefix_ok a.path [47, 47]
  generalize writeA ⟨a.scheme, a.host, a.port, [], [], false, [], false⟩ = hd at hWh hht
  have hdl : hd.length ≤ (writeA a).length := by rw [hht]; simp
  have hdr : (writeA a).drop hd.length = behindA a := by rw [hht]; simp
  generalize writeA a = t at hW hdl hdr hl2 ⊢
  repeat' (first | (first | refine Ya ?_ | refine Yb ?_ | refine Yc ?_ | refine Yd ?_ | refine Ye ?_ | refine Yf ?_ | refine Yg ?_ | refine Yh ?_ | refine Yi ?_ | refine Yj ?_ | refine Yk ?_ | refine Yl ?_ | refine Ym ?_ | refine Yn ?_ | refine Yo ?_ | refine Yp (h := ?_) | refine Yq ?_ | refine Yr ?_ | refine Ys ?_ | refine Zr hc (hk := ?_) | refine Zd hc (hk := ?_) | (refine Zc (ht := fun hb => ?_) (hf := fun hb => ?_) <;> (try simp at hb)) | fail) | (first | refine Zw hc (hf := by first | exact hCb | exact hCa | exact hUn | exact hW | exact hWh | exact hPr) (hk := ?_) | refine Zq hc (hf := by first | exact hCb | exact hCa | exact hUn | exact hW | exact hWh | exact hPr) (hk := ?_) | refine Zo hc (hk := ?_) | refine Zu hc (hk := ?_) | refine Ze hc (hk := ?_) | refine Zn hc (hk := ?_) | fail))
  all_goals try contradiction
  · rw [if_neg (fun h => by
      rcases hb with (((h2 | h2) | h2) | h2) | h2
      · exact h2 h.1
      · exact h2 h.2.1
      · exact h2 h.2.2.1
      · exact h.2.2.2.1 h2
      · exact h.2.2.2.2 h2)]
    (refine Zl hc (hr := ?_))
    simp
  · have hn : ¬ [47, 47] <+: a.path := fun h => by have := hb.2; rw [List.isPrefixOf_iff_prefix.2 h] at this; cases this
    rw [if_pos ⟨hb.1.1.1.1, hb.1.1.1.2, hb.1.1.2, hb.1.2, hn⟩, ← hdr]
    (refine Zl hc (hr := ?_))
    simp
theorem relativesSpec_ok (b a : Adr) (hbF : b.Fits) (haF : a.Fits) : FnOk Tryz.prog 3 [adrD b, adrD a] (tru true) := by
  refine fnOk Tryz.func3 rfl (by kernel_rfl) Tryz.ntmps3 _ rfl (by simp) fun C hc => ?_
  have h1 := relative_ok b a hbF haF
  have h2 := qRelative_ok b a hbF haF
  generalize relC b a = x at h1 h2
  repeat' (first | (first | refine Ya ?_ | refine Yb ?_ | refine Yc ?_ | refine Yd ?_ | refine Ye ?_ | refine Yf ?_ | refine Yg ?_ | refine Yh ?_ | refine Yi ?_ | refine Yj ?_ | refine Yk ?_ | refine Yl ?_ | refine Ym ?_ | refine Yn ?_ | refine Yo ?_ | refine Yp (h := ?_) | refine Yq ?_ | refine Yr ?_ | refine Ys ?_ | refine Zr hc (hk := ?_) | refine Zd hc (hk := ?_) | (refine Zc (ht := fun hb => ?_) (hf := fun hb => ?_) <;> (try simp at hb)) | fail) | (first | refine Zw hc (hf := by first | exact h1 | exact h2 | exact awake_ok) (hk := ?_) | refine Zq hc (hf := by first | exact h1 | exact h2 | exact awake_ok) (hk := ?_) | refine Zo hc (hk := ?_) | refine Zu hc (hk := ?_) | refine Ze hc (hk := ?_) | refine Zn hc (hk := ?_) | fail))
  all_goals try contradiction
  (refine Zl hc (hr := ?_))
  simp
end Go.Proofs.YtglonkenckigiaaGreatDoor
