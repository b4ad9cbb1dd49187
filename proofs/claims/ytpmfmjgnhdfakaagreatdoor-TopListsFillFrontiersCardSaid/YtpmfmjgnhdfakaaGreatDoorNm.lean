/-
  ADDRESS: AddressNormalsStay, but for the contract of normal, which is a premise here. (WITH run_drawN.)
-/
import Derived.Test.YtpmfmjgnhdfakaaGreatDoorAdL
import Derived.Test.YtpmfmjgnhdfakaaGreatDoorR1A
import Derived.Test.YtpmfmjgnhdfakaaGreatDoorAdH
import Derived.Test.YtpmfmjgnhdfakaaGreatDoorLwPh
set_option linter.unusedSimpArgs false
set_option linter.unusedVariables false
namespace Go.Proofs.YtpmfmjgnhdfakaaGreatDoor
open Go.Lw Go.RowKit Go.ChangeShapes Go.WideShapes Go.ChangeAt
set_option maxRecDepth 100000
set_option maxHeartbeats 1000000

/-- What normal is to do. -/
def NormalIs : Prop := ∀ a : Adr, chkC a = 0 → FnOk Tryz.prog 42 [adrD a] (adrD (normA a))
def normalC (a : Adr) : Adr × Nat := if chkC a ≠ 0 then (Adr.zero, chkC a) else if chkC (normA a) ≠ 0 then (Adr.zero, chkC (normA a)) else (normA a, 0)
theorem part_len (a : Adr) : a.path.length ≤ (writeA a).length ∧ a.scheme.length ≤ (writeA a).length ∧ a.host.length ≤ (writeA a).length ∧ (pPart a).length ≤ (writeA a).length := by
  have : (writeA a).length = a.scheme.length + 3 + a.host.length + (pPart a).length + (a.path.length + (qPart a).length + (fPart a).length) := by simp [writeA, behindA]; omega
  omega
theorem norm_fits {a : Adr} (h : chkC a = 0) : (normA a).Fits := by
  have hf := chk_fits h
  have h1 := path_len a.path
  have h2 := normR_len a.query
  have h3 : (portN (small a.scheme) (a.port.dropWhile fun c => decide (c = 48))).length ≤ a.port.length := by
    have := (List.dropWhile_suffix (l := a.port) fun c => decide (c = 48)).length_le
    unfold portN
    split
    · simp
    · exact this
  have hp := (part_len a).1
  have hl := ((chk_iff a).1 h).2
  obtain ⟨k1, k2, k3, k4, k5, k6⟩ := hf
  exact ⟨by simp [normA, small]; omega, by simp [normA, small]; omega, by simp only [normA]; omega, by simp only [normA]; omega, by simp only [normA]; omega, by simp [normA]⟩
theorem normal_ok' (hN : NormalIs) (a : Adr) (hf : a.Fits) : FnOk Tryz.prog 15 [adrD a] (.tup [adrD (normalC a).1, int (normalC a).2]) := by
  refine fnOk Tryz.func15 rfl (by kernel_rfl) Tryz.ntmps15 _ rfl (by simp) fun C hc => ?_
  have hC := check_ok a hf
  unfold normalC
  by_cases h1 : chkC a = 0
  rotate_left
  · rw [if_pos h1]
    repeat' (first | (first | refine Ya ?_ | refine Yb ?_ | refine Yc ?_ | refine Yd ?_ | refine Ye ?_ | refine Yf ?_ | refine Yg ?_ | refine Yh ?_ | refine Yi ?_ | refine Yj ?_ | refine Yk ?_ | refine Yl ?_ | refine Ym ?_ | refine Yn ?_ | refine Yo ?_ | refine Yp (h := ?_) | refine Yq ?_ | refine Yr ?_ | refine Ys ?_ | refine Zr hc (hk := ?_) | refine Zd hc (hk := ?_) | (refine Zc (ht := fun hb => ?_) (hf := fun hb => ?_) <;> (try simp at hb)) | fail) | (first | refine Zw hc (hf := by exact hC) (hk := ?_) | refine Zq hc (hf := by exact hC) (hk := ?_) | refine Zo hc (hk := ?_) | refine Zu hc (hk := ?_) | refine Ze hc (hk := ?_) | refine Zn hc (hk := ?_) | fail))
    all_goals try contradiction
    (refine Zl hc (hr := ?_))
    simp
  rw [if_neg (fun h => h h1)]
  rw [h1] at hC
  have hNa := hN a h1
  have hC2 := check_ok (normA a) (norm_fits h1)
  generalize normA a = b at hNa hC2
  by_cases h2 : chkC b = 0
  · rw [if_neg (fun h => h h2)]
    rw [h2] at hC2
    repeat' (first | (first | refine Ya ?_ | refine Yb ?_ | refine Yc ?_ | refine Yd ?_ | refine Ye ?_ | refine Yf ?_ | refine Yg ?_ | refine Yh ?_ | refine Yi ?_ | refine Yj ?_ | refine Yk ?_ | refine Yl ?_ | refine Ym ?_ | refine Yn ?_ | refine Yo ?_ | refine Yp (h := ?_) | refine Yq ?_ | refine Yr ?_ | refine Ys ?_ | refine Zr hc (hk := ?_) | refine Zd hc (hk := ?_) | (refine Zc (ht := fun hb => ?_) (hf := fun hb => ?_) <;> (try simp at hb)) | fail) | (first | refine Zw hc (hf := by first | exact hC | exact hNa | exact hC2) (hk := ?_) | refine Zq hc (hf := by first | exact hC | exact hNa | exact hC2) (hk := ?_) | refine Zo hc (hk := ?_) | refine Zu hc (hk := ?_) | refine Ze hc (hk := ?_) | refine Zn hc (hk := ?_) | fail))
    all_goals try contradiction
    (refine Zl hc (hr := ?_))
    simp
  · rw [if_pos h2]
    repeat' (first | (first | refine Ya ?_ | refine Yb ?_ | refine Yc ?_ | refine Yd ?_ | refine Ye ?_ | refine Yf ?_ | refine Yg ?_ | refine Yh ?_ | refine Yi ?_ | refine Yj ?_ | refine Yk ?_ | refine Yl ?_ | refine Ym ?_ | refine Yn ?_ | refine Yo ?_ | refine Yp (h := ?_) | refine Yq ?_ | refine Yr ?_ | refine Ys ?_ | refine Zr hc (hk := ?_) | refine Zd hc (hk := ?_) | (refine Zc (ht := fun hb => ?_) (hf := fun hb => ?_) <;> (try simp at hb)) | fail) | (first | refine Zw hc (hf := by first | exact hC | exact hNa | exact hC2) (hk := ?_) | refine Zq hc (hf := by first | exact hC | exact hNa | exact hC2) (hk := ?_) | refine Zo hc (hk := ?_) | refine Zu hc (hk := ?_) | refine Ze hc (hk := ?_) | refine Zn hc (hk := ?_) | fail))
    all_goals try contradiction
    (refine Zl hc (hr := ?_))
    simp
end Go.Proofs.YtpmfmjgnhdfakaaGreatDoor
/-
  ADDRESS: TrimLeft at "0"; what stands behind the calls of normal's first region. (WITH run_drawN.)
-/
set_option linter.unusedSimpArgs false
set_option linter.unusedVariables false
namespace Go.Proofs.YtpmfmjgnhdfakaaGreatDoor
open Go.Lw Go.RowKit
set_option maxRecDepth 100000
set_option maxHeartbeats 1000000

theorem trimLeftB_eq (c : UInt8) : ∀ l : Bs, Lib.trimLeftB l c = l.dropWhile fun x => decide (x = c)
  | [] => by simp [Lib.trimLeftB]
  | b :: l => by
    have ih := trimLeftB_eq c l
    unfold Lib.trimLeftB at ih ⊢
    by_cases h : b = c
    · simp [h] at ih ⊢; exact ih
    · simp [h]
theorem trimLeft_ok (s : Bs) : FnOk Tryz.prog 92 [str s, str [48]] (str (s.dropWhile fun c => decide (c = 48))) :=
  fnOk_lits [.string (bs s), .string (bs [48])] (by kernel_rfl) fun w _ => by
    have h := Tryz.strings_TrimLeft_one (bs s) 48 (by decide) w
    rw [← trimLeftB_eq]
    exact h
end Go.Proofs.YtpmfmjgnhdfakaaGreatDoor
/-
  ADDRESS: normal. (WITH run_drawN.)
-/
set_option linter.unusedSimpArgs false
set_option linter.unusedVariables false
namespace Go.Proofs.YtpmfmjgnhdfakaaGreatDoor
open Go.Lw Go.RowKit
set_option maxRecDepth 100000
set_option maxHeartbeats 1000000

theorem normal_is : NormalIs := by
  intro a h
  refine fnOk Tryz.func42 rfl (by kernel_rfl) Tryz.ntmps42 _ rfl (by simp) fun C hc => ?_
  obtain ⟨hA, hl⟩ := (chk_iff a).1 h
  have hf := chk_fits h
  have hpl := part_len a
  have hql : a.query.length ≤ 2000 := by
    by_cases e : a.query = []
    · simp [e]
    · have hq := hA.hasQ e
      have : (writeA a).length = a.scheme.length + 3 + a.host.length + (pPart a).length + (a.path.length + (qPart a).length + (fPart a).length) := by simp [writeA, behindA]; omega
      have h2 : (qPart a).length = a.query.length + 1 := by unfold qPart; rw [if_pos hq]; simp
      omega
  have hS1 := small_ok a.scheme (by omega)
  have hS2 := small_ok a.host (by omega)
  have hTL := trimLeft_ok a.port
  have hN1 := normR_ok a.path (by omega) (row63 hA.path)
  have hN2 := normR_ok a.query (by omega) hA.query
  have hnl := normR_len a.path
  have hUn := undot_ok (normR a.path) (by omega)
  have hsch : small a.scheme = [104, 116, 116, 112] ∨ small a.scheme = [104, 116, 116, 112, 115] := hA.sch
  unfold normA portN pathN
  generalize small a.scheme = sc at hS1 hsch ⊢
  generalize small a.host = ho at hS2 ⊢
  generalize (a.port.dropWhile fun c => decide (c = 48)) = po at hTL ⊢
  generalize normR a.path = pa at hN1 hUn ⊢
  generalize normR a.query = qu at hN2 ⊢
  generalize undotP pa = up at hUn ⊢
  repeat' (first | (first | refine Ya ?_ | refine Yb ?_ | refine Yc ?_ | refine Yd ?_ | refine Ye ?_ | refine Yf ?_ | refine Yg ?_ | refine Yh ?_ | refine Yi ?_ | refine Yj ?_ | refine Yk ?_ | refine Yl ?_ | refine Ym ?_ | refine Yn ?_ | refine Yo ?_ | refine Yp (h := ?_) | refine Yq ?_ | refine Yr ?_ | refine Ys ?_ | refine Zr hc (hk := ?_) | refine Zd hc (hk := ?_) | (refine Zc (ht := fun hb => ?_) (hf := fun hb => ?_) <;> (try simp at hb)) | fail) | (refine run_drawF 18 hc (by kernel_rfl) rfl (by kernel_rfl) rfl (by simp; exact Gives.mk) ?_; try simp only [List.take_succ_cons, List.take_zero, List.drop_succ_cons, List.drop_zero]) | (first | refine Zw hc (hf := by first | exact hS1 | exact hS2 | exact hTL | exact hN1 | exact hN2 | exact hUn) (hk := ?_) | refine Zq hc (hf := by first | exact hS1 | exact hS2 | exact hTL | exact hN1 | exact hN2 | exact hUn) (hk := ?_) | refine Zo hc (hk := ?_) | refine Zu hc (hk := ?_) | refine Ze hc (hk := ?_) | refine Zn hc (hk := ?_) | fail))
  · rename_i k
    rw [if_pos k, if_pos hb]
    (refine Zl hc (hr := ?_))
    simp
  · rename_i k
    rw [if_pos k, if_neg hb]
    (refine Zl hc (hr := ?_))
    simp
  · rename_i k
    rw [if_neg (fun e => e.elim (fun e => k.1 e.1 e.2) (fun e => k.2 e.1 e.2)), if_pos hb]
    (refine Zl hc (hr := ?_))
    simp
  · rename_i k
    rw [if_neg (fun e => e.elim (fun e => k.1 e.1 e.2) (fun e => k.2 e.1 e.2)), if_neg hb]
    (refine Zl hc (hr := ?_))
    simp
end Go.Proofs.YtpmfmjgnhdfakaaGreatDoor
