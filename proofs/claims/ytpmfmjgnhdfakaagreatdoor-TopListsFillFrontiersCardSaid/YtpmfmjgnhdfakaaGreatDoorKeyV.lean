/-
  ADDRESS: rules of sameness: has, says. (WITH run_drawN.)
-/
import Derived.Test.YtpmfmjgnhdfakaaGreatDoorKeyH
import Derived.Test.YtpmfmjgnhdfakaaGreatDoorKeyS
import Derived.Test.YtpmfmjgnhdfakaaGreatDoorAdI
set_option linter.unusedSimpArgs false
set_option linter.unusedVariables false
namespace Go.Proofs.YtpmfmjgnhdfakaaGreatDoor
open Go.Lw Go.RowKit
set_option maxRecDepth 100000
set_option maxHeartbeats 1000000

/-- A rule: its kind, its name. -/
abbrev Rul := Int × Bs
abbrev rulCells (x : Rul) : List D := [int x.1, str x.2]
abbrev rulD (x : Rul) : D := .agg [int x.1, str x.2]
abbrev rulSl (L : List Rul) : D := .sl L.length fun i => [int (L[i]?.getD (0, [])).1, str (L[i]?.getD (0, [])).2]
def idxR (L : List Rul) (s : Rul) (j : Nat) : Int := if j < L.length then (if s = L[j]?.getD (0, []) then (j : Int) else idxR L s (j + 1)) else -1
termination_by L.length - j
theorem idxR_mem (L : List Rul) (s : Rul) (j : Nat) : 0 ≤ idxR L s j ↔ s ∈ L.drop j := by
  rw [idxR]
  split
  · rename_i h
    rw [List.drop_eq_getElem_cons h, List.getElem?_eq_getElem h, Option.getD_some]
    split
    · rename_i hs
      exact ⟨fun _ => List.mem_cons.2 (.inl hs), fun _ => by omega⟩
    · rename_i hs
      rw [idxR_mem L s (j + 1), List.mem_cons]
      exact ⟨.inr, fun h => h.resolve_left hs⟩
  · rename_i h
    rw [List.drop_of_length_le (by omega)]
    simp
termination_by L.length - j
theorem rul_eq (a : Int) (b : Bs) (x : Rul) : ((a, b) = x) ↔ (a = x.1 ∧ b = x.2) := by rcases x with ⟨x1, x2⟩; simp
theorem index_ok (L : List Rul) (s : Rul) (hm : L.length ≤ 200000) : FnOk Tryz.prog 139 [rulSl L, rulD s] (int (idxR L s 0)) := by
  refine fnOk Tryz.func139 rfl (by kernel_rfl) Tryz.ntmps139 _ rfl (by simp) fun C hc => ?_
  repeat' (first | (first | refine Ya ?_ | refine Yb ?_ | refine Yc ?_ | refine Yd ?_ | refine Ye ?_ | refine Yf ?_ | refine Yg ?_ | refine Yh ?_ | refine Yi ?_ | refine Yj ?_ | refine Yk ?_ | refine Yl ?_ | refine Ym ?_ | refine Yn ?_ | refine Yo ?_ | refine Yp (h := ?_) | refine Yq ?_ | refine Yr ?_ | refine Ys ?_ | refine Zr hc (hk := ?_) | refine Zd hc (hk := ?_) | (refine Zc (ht := fun hb => ?_) (hf := fun hb => ?_) <;> (try simp at hb)) | fail) | (first | refine Zo hc (hk := ?_) | refine Zu hc (hk := ?_) | refine Ze hc (hk := ?_) | refine Zn hc (hk := ?_) | fail))
  refine ewp_loop (fun j : Nat => ⟨[(0, .d (rulSl L)), (3, .bp 3 0), (7, .d (int L.length)), (8, .d (int j))], [(3, .box 102 [.d (int s.1), .d (str s.2)])]⟩) (fun j => j ≤ L.length ∧ idxR L s 0 = idxR L s j) (fun j => L.length - j) 0 (by simp) (run_keep [0, 3, 7, 8] [3] (by simp; exact Gives.mk) (by simp; exact Gives.mk)) ?_
  rintro j ⟨h1, h2⟩
  have h3 : idxR L s j = if j < L.length then (if s = L[j]?.getD (0, []) then (j : Int) else idxR L s (j + 1)) else -1 := by rw [idxR]
  obtain ⟨s1, s2⟩ := s
  simp only [rul_eq] at h3
  repeat' (first | (first | refine Ya ?_ | refine Yb ?_ | refine Yc ?_ | refine Yd ?_ | refine Ye ?_ | refine Yf ?_ | refine Yg ?_ | refine Yh ?_ | refine Yi ?_ | refine Yj ?_ | refine Yk ?_ | refine Yl ?_ | refine Ym ?_ | refine Yn ?_ | refine Yo ?_ | refine Yp (h := ?_) | refine Yq ?_ | refine Yr ?_ | refine Ys ?_ | refine Zr hc (hk := ?_) | refine Zd hc (hk := ?_) | (refine Zc (ht := fun hb => ?_) (hf := fun hb => ?_) <;> (try simp at hb)) | fail) | (first | refine Zo hc (hk := ?_) | refine Zu hc (hk := ?_) | refine Ze hc (hk := ?_) | refine Zn hc (hk := ?_) | fail))
  · rw [h2, h3, if_pos (by assumption), if_pos hb]
    (refine Zl hc (hr := ?_))
    simp
  · exact ⟨j + 1, ⟨by omega, by rw [h2, h3, if_pos (by assumption), if_neg (fun e => hb e.1 e.2)]⟩, by omega, run_back [0, 3, 7, 8] [3] (by simp; exact Gives.mk) (by simp; exact Gives.mk) (by simp)⟩
  · rw [h2, h3, if_neg (by omega)]
    (refine Zl hc (hr := ?_))
    simp
theorem contains_ok (L : List Rul) (s : Rul) (hm : L.length ≤ 200000) : FnOk Tryz.prog 107 [rulSl L, rulD s] (tru (decide (s ∈ L))) := by
  refine fnOk Tryz.func107 rfl (by kernel_rfl) Tryz.ntmps107 _ rfl (by simp) fun C hc => ?_
  repeat' (first | (first | refine Ya ?_ | refine Yb ?_ | refine Yc ?_ | refine Yd ?_ | refine Ye ?_ | refine Yf ?_ | refine Yg ?_ | refine Yh ?_ | refine Yi ?_ | refine Yj ?_ | refine Yk ?_ | refine Yl ?_ | refine Ym ?_ | refine Yn ?_ | refine Yo ?_ | refine Yp (h := ?_) | refine Yq ?_ | refine Yr ?_ | refine Ys ?_ | refine Zr hc (hk := ?_) | refine Zd hc (hk := ?_) | (refine Zc (ht := fun hb => ?_) (hf := fun hb => ?_) <;> (try simp at hb)) | fail) | (first | refine Zw hc (hf := by exact index_ok L s hm) (hk := ?_) | refine Zq hc (hf := by exact index_ok L s hm) (hk := ?_) | refine Zo hc (hk := ?_) | refine Zu hc (hk := ?_) | refine Ze hc (hk := ?_) | refine Zn hc (hk := ?_) | fail))
  (refine Zl hc (hr := ?_))
  refine res_bool ?_
  have := idxR_mem L s 0
  rw [Bool.eq_iff_iff]; simpa using this
theorem has_ok (L : List Rul) (k : Int) (n : Bs) (hm : L.length ≤ 200000) : FnOk Tryz.prog 58 [rulSl L, int k, str n] (tru (decide ((k, n) ∈ L))) := by
  refine fnOk Tryz.func58 rfl (by kernel_rfl) Tryz.ntmps58 _ rfl (by simp) fun C hc => ?_
  repeat' (first | (first | refine Ya ?_ | refine Yb ?_ | refine Yc ?_ | refine Yd ?_ | refine Ye ?_ | refine Yf ?_ | refine Yg ?_ | refine Yh ?_ | refine Yi ?_ | refine Yj ?_ | refine Yk ?_ | refine Yl ?_ | refine Ym ?_ | refine Yn ?_ | refine Yo ?_ | refine Yp (h := ?_) | refine Yq ?_ | refine Yr ?_ | refine Ys ?_ | refine Zr hc (hk := ?_) | refine Zd hc (hk := ?_) | (refine Zc (ht := fun hb => ?_) (hf := fun hb => ?_) <;> (try simp at hb)) | fail) | (first | refine Zw hc (hf := by exact contains_ok L (k, n) hm) (hk := ?_) | refine Zq hc (hf := by exact contains_ok L (k, n) hm) (hk := ?_) | refine Zo hc (hk := ?_) | refine Zu hc (hk := ?_) | refine Ze hc (hk := ?_) | refine Zn hc (hk := ?_) | fail))
  (refine Zl hc (hr := ?_))
  simp
end Go.Proofs.YtpmfmjgnhdfakaaGreatDoor
/-
  ADDRESS: small paths, of the program and of the reference. (WITH run_drawN.)
-/
set_option linter.unusedSimpArgs false
set_option linter.unusedVariables false
namespace Go.Proofs.YtpmfmjgnhdfakaaGreatDoor
open Go.Lw Go.RowKit
set_option maxRecDepth 100000
set_option maxHeartbeats 1000000

/-- A path with small letters, but for % and two bytes. -/
def smallP : Bs → Bs
  | [] => []
  | c :: t => if c = 37 then 37 :: (t.take 2 ++ smallP (t.drop 2)) else low c :: smallP t
termination_by s => s.length
decreasing_by all_goals simp <;> omega
def pcOk (s : Bs) : Prop := ∀ i, i < s.length → s[i]?.getD 0 = 37 → i + 2 < s.length
theorem smallP_pc (s : Bs) (i : Nat) (hi : i < s.length) (h : s[i]?.getD 0 = 37) : smallP (s.drop i) = (s.drop i).take 3 ++ smallP (s.drop (i + 3)) := by
  have e : s[i] = 37 := by rw [List.getElem?_eq_getElem hi] at h; exact h
  rw [List.drop_eq_getElem_cons hi, smallP, if_pos e, e, List.take_succ_cons, List.drop_drop]
  rfl
theorem smallP_step (s : Bs) (i : Nat) (hi : i < s.length) (h : s[i]?.getD 0 ≠ 37) : smallP (s.drop i) = low (s[i]?.getD 0) :: smallP (s.drop (i + 1)) := by
  have e : s[i] = s[i]?.getD 0 := by rw [List.getElem?_eq_getElem hi]; rfl
  rw [List.drop_eq_getElem_cons hi, smallP, e, if_neg h]
theorem smallP_len : ∀ s : Bs, (smallP s).length = s.length
  | [] => by simp [smallP]
  | c :: t => by
    rw [smallP]
    split
    · have := smallP_len (t.drop 2)
      simp only [List.length_cons, List.length_append, this, List.length_take, List.length_drop]
      omega
    · simp [smallP_len t]
termination_by s => s.length
decreasing_by all_goals simp <;> omega
/-- The program's row, as far as a place. -/
structure SmAt (s m : Bs) (j : Nat) : Prop where
  le : j ≤ s.length
  len : m.length = s.length
  rest : m.drop j = s.drop j
  done : smallP s = m.take j ++ smallP (s.drop j)
theorem SmAt.at_ {s m : Bs} {j : Nat} (h : SmAt s m j) : m[j]?.getD 0 = s[j]?.getD 0 := by
  have := congrArg (fun l : Bs => l[0]?.getD 0) h.rest
  simpa using this
theorem SmAt.pc {s m : Bs} {j : Nat} (h : SmAt s m j) (hj : j + 2 < s.length) (hc : s[j]?.getD 0 = 37) : SmAt s m (j + 3) := by
  refine ⟨by omega, h.len, ?_, ?_⟩
  · rw [← List.drop_drop, ← List.drop_drop, h.rest]
  · rw [h.done, smallP_pc s j (by omega) hc, List.take_add, h.rest, List.append_assoc]
theorem SmAt.set {s m : Bs} {j : Nat} (h : SmAt s m j) (hj : j < s.length) (hc : s[j]?.getD 0 ≠ 37) : SmAt s (m.set j (low (s[j]?.getD 0))) (j + 1) := by
  have hjm : j < m.length := by have := h.len; omega
  refine ⟨by omega, by simp [h.len], ?_, ?_⟩
  · rw [List.drop_set_of_lt (by omega), ← List.drop_drop, h.rest, List.drop_drop]
  · rw [h.done, smallP_step s j hj hc, List.take_add_one, List.take_set_of_le (Nat.le_refl _)]
    simp [hjm]
theorem SmAt.same {s m : Bs} {j : Nat} (h : SmAt s m j) (hj : j < s.length) (hc : s[j]?.getD 0 ≠ 37) (hl : low (s[j]?.getD 0) = s[j]?.getD 0) : SmAt s m (j + 1) := by
  have e := h.set hj hc
  rw [hl, ← h.at_] at e
  have hjm : j < m.length := by have := h.len; omega
  rw [show m.set j (m[j]?.getD 0) = m by simp [hjm]] at e
  exact e
theorem byte_ne {c : UInt8} (h : ¬ (c.toNat : Int) = 37) : c ≠ 37 := fun e => h (by rw [e]; rfl)
theorem byte_eq {c : UInt8} (h : (c.toNat : Int) = 37) : c = 37 := by
  have h2 : c.toNat = 37 := by omega
  exact UInt8.toNat_inj.1 (by rw [h2]; rfl)
theorem low_id {c : UInt8} (h : 65 ≤ (c.toNat : Int) → 90 < (c.toNat : Int)) : low c = c := by
  unfold low isUp
  rw [if_neg (by simp; omega)]
theorem smallPath_ok (s : Bs) (hm : s.length ≤ 100000) (hp : pcOk s) : FnOk Tryz.prog 110 [str s] (str (smallP s)) := by
  refine fnOk Tryz.func110 rfl (by kernel_rfl) Tryz.ntmps110 _ rfl (by simp) fun C hc => ?_
  repeat' (first | refine Ya ?_ | refine Yb ?_ | refine Yc ?_ | refine Yd ?_ | refine Ye ?_ | refine Yf ?_ | refine Yg ?_ | refine Yh ?_ | refine Yi ?_ | refine Yj ?_ | refine Yk ?_ | refine Yl ?_ | refine Ym ?_ | refine Yn ?_ | refine Yo ?_ | refine Yp (h := ?_) | refine Yq ?_ | refine Yr ?_ | refine Ys ?_ | refine Zr hc (hk := ?_) | refine Zd hc (hk := ?_) | (refine Zc (ht := fun hb => ?_) (hf := fun hb => ?_) <;> (try simp at hb)) | fail)
  refine ewp_loop (fun x : Nat × Bs => ⟨[(3, .os 6 x.2.length), (4, .d (int x.1))], [(6, .own 5 1 (false, [.lit (.int .u8 0)]) (x.2.map byteRow))]⟩) (fun x => SmAt s x.2 x.1) (fun x => s.length - x.1) (0, s) ⟨by simp, by simp, by simp, by simp⟩ (run_keep [3, 4] [6] (by simp; exact Gives.mk) (by simp; exact Gives.mk)) ?_
  rintro ⟨j, m⟩ hI
  simp only at hI ⊢
  have ha := hI.at_
  have hj := hI.le
  have hml := hI.len
  have hpj := hp j
  repeat' (first | refine Ya ?_ | refine Yb ?_ | refine Yc ?_ | refine Yd ?_ | refine Ye ?_ | refine Yf ?_ | refine Yg ?_ | refine Yh ?_ | refine Yi ?_ | refine Yj ?_ | refine Yk ?_ | refine Yl ?_ | refine Ym ?_ | refine Yn ?_ | refine Yo ?_ | refine Yp (h := ?_) | refine Yq ?_ | refine Yr ?_ | refine Ys ?_ | refine Zr hc (hk := ?_) | refine Zd hc (hk := ?_) | (refine Zc (ht := fun hb => ?_) (hf := fun hb => ?_) <;> (try simp at hb)) | fail)
  · rw [ha] at hb
    have h2 := hpj (by omega) (byte_eq hb)
    exact ⟨(j + 3, m), hI.pc h2 (byte_eq hb), by simp; omega, run_back [3, 4] [6] (by simp; exact Gives.mk) (by simp; exact Gives.mk) (by simp; omega)⟩
  · rename_i h37
    rw [ha] at h37
    exact ⟨(j + 1, m.set j (low (s[j]?.getD 0))), hI.set (by omega) (byte_ne h37), by simp; omega, run_back [3, 4] [6] (by simp; exact Gives.mk) (by simp; exact Gives.mk) (by
      rw [ha] at hb
      have h5 := low_up _ hb
      have h6 : ((s[j]?.getD 0).toNat : Int) + 32 = (low (s[j]?.getD 0)).toNat := by omega
      simp [ha, h6])⟩
  · rename_i h37
    rw [ha] at h37 hb
    exact ⟨(j + 1, m), hI.same (by omega) (byte_ne h37) (low_id hb), by simp; omega, run_back [3, 4] [6] (by simp; exact Gives.mk) (by simp; exact Gives.mk) (by simp)⟩
  · have := hI.done
    rw [List.take_of_length_le (by omega), List.drop_of_length_le (by omega), smallP, List.append_nil] at this
    rw [this]
    (refine Zl hc (hr := ?_))
    simp [one_row]
end Go.Proofs.YtpmfmjgnhdfakaaGreatDoor
/-
  ADDRESS: paths of keys by rules, of the program and of the reference. (WITH run_drawN.)
-/
set_option linter.unusedSimpArgs false
set_option linter.unusedVariables false
namespace Go.Proofs.YtpmfmjgnhdfakaaGreatDoor
open Go.Lw Go.RowKit
set_option maxRecDepth 100000
set_option maxHeartbeats 1000000

/-- Where the last part of a path begins. -/
def lastK (p : Bs) : Nat := (Lib.lastIndexByte (bs p) 47 + 1).toNat
theorem lastK_at (p : Bs) : Lib.lastIndexByte (bs p) 47 = (lastK p : Int) - 1 ∧ lastK p ≤ p.length := by
  obtain ⟨k, h1, h2⟩ := last_at p 47
  have h1' : Lib.lastIndexByte (bs p) 47 = (k : Int) - 1 := h1
  have e : lastK p = k := by unfold lastK; rw [h1']; omega
  rw [e]
  exact ⟨h1', h2⟩
def stripS (p : Bs) : Bs := if 1 < p.length ∧ p[p.length - 1]?.getD 0 = 47 then stripS (p.take (p.length - 1)) else p
termination_by p.length
decreasing_by simp; omega
def noTail (L : List Rul) (p : Bs) : Bs := if p.drop (lastK p) ≠ [] ∧ (5, p.drop (lastK p)) ∈ L then p.take (lastK p) else p
/-- The path of a key. -/
def pathK (p : Bs) (L : List Rul) : Bs :=
  if (4, []) ∈ L then stripS (noTail L (if (3, []) ∈ L then smallP p else p)) else noTail L (if (3, []) ∈ L then smallP p else p)
theorem byte47 {c : UInt8} (h : (c.toNat : Int) = 47) : c = 47 := by
  have h2 : c.toNat = 47 := by omega
  exact UInt8.toNat_inj.1 (by rw [h2]; rfl)
theorem pathOf_ok (p : Bs) (L : List Rul) (hp : p.length ≤ 100000) (hm : L.length ≤ 200000) (hpc : pcOk p) : FnOk Tryz.prog 60 [str p, rulSl L] (str (pathK p L)) := by
  refine fnOk Tryz.func60 rfl (by kernel_rfl) Tryz.ntmps60 _ rfl (by simp) fun C hc => ?_
  have hs := smallPath_ok p hp hpc
  have h3 := has_ok L 3 [] hm
  have h4 := has_ok L 4 [] hm
  obtain ⟨r, hr⟩ : ∃ r, r = if ((3, []) : Rul) ∈ L then smallP p else p := ⟨_, rfl⟩
  have hrl : r.length = p.length := by rw [hr]; split <;> simp [smallP_len]
  unfold pathK
  rw [← hr]
  have h5 := has_ok L 5 (r.drop (lastK r)) hm
  have hB := lastByte_ok r 47 (by omega)
  have hB : FnOk Tryz.prog 16 [str r, u8 47] (int ((lastK r : Int) - 1)) := by rw [← (lastK_at r).1]; exact lastByte_ok r 47 (by omega)
  have hk := (lastK_at r).2
  have e5 : noTail L r = if r.drop (lastK r) ≠ [] ∧ decide ((5, r.drop (lastK r)) ∈ L) = true then r.take (lastK r) else r := by unfold noTail; simp
  rw [e5]
  generalize decide ((5, r.drop (lastK r)) ∈ L) = b5 at h5 ⊢
  generalize lastK r = k at h5 hB hk ⊢
  have e4 : ∀ x : Bs, (if ((4, []) : Rul) ∈ L then stripS x else x) = if decide (((4, []) : Rul) ∈ L) = true then stripS x else x := by intro x; simp
  rw [e4]
  generalize decide ((4, []) ∈ L) = b4 at h4 ⊢
  by_cases b3 : ((3, []) : Rul) ∈ L
  · rw [if_pos b3] at hr
    rw [← hr] at hs
    rw [decide_eq_true b3] at h3
    clear hr
    cases b4
    · repeat' (first | (first | refine Ya ?_ | refine Yb ?_ | refine Yc ?_ | refine Yd ?_ | refine Ye ?_ | refine Yf ?_ | refine Yg ?_ | refine Yh ?_ | refine Yi ?_ | refine Yj ?_ | refine Yk ?_ | refine Yl ?_ | refine Ym ?_ | refine Yn ?_ | refine Yo ?_ | refine Yp (h := ?_) | refine Yq ?_ | refine Yr ?_ | refine Ys ?_ | refine Zr hc (hk := ?_) | refine Zd hc (hk := ?_) | (refine Zc (ht := fun hb => ?_) (hf := fun hb => ?_) <;> (try simp at hb)) | fail) | (first | refine Zw hc (hf := by first | exact h3 | exact hs | exact hB | exact h5 | exact h4) (hk := ?_) | refine Zq hc (hf := by first | exact h3 | exact hs | exact hB | exact h5 | exact h4) (hk := ?_) | refine Zo hc (hk := ?_) | refine Zu hc (hk := ?_) | refine Ze hc (hk := ?_) | refine Zn hc (hk := ?_) | fail))
      · rw [if_neg (by simp), if_pos (by simp; assumption)]
        (refine Zl hc (hr := ?_))
        simp
      · rw [if_neg (by simp), if_neg (by simp; assumption)]
        (refine Zl hc (hr := ?_))
        simp
    · repeat' (first | (first | refine Ya ?_ | refine Yb ?_ | refine Yc ?_ | refine Yd ?_ | refine Ye ?_ | refine Yf ?_ | refine Yg ?_ | refine Yh ?_ | refine Yi ?_ | refine Yj ?_ | refine Yk ?_ | refine Yl ?_ | refine Ym ?_ | refine Yn ?_ | refine Yo ?_ | refine Yp (h := ?_) | refine Yq ?_ | refine Yr ?_ | refine Ys ?_ | refine Zr hc (hk := ?_) | refine Zd hc (hk := ?_) | (refine Zc (ht := fun hb => ?_) (hf := fun hb => ?_) <;> (try simp at hb)) | fail) | (first | refine Zw hc (hf := by first | exact h3 | exact hs | exact hB | exact h5 | exact h4) (hk := ?_) | refine Zq hc (hf := by first | exact h3 | exact hs | exact hB | exact h5 | exact h4) (hk := ?_) | refine Zo hc (hk := ?_) | refine Zu hc (hk := ?_) | refine Ze hc (hk := ?_) | refine Zn hc (hk := ?_) | fail))
      · rw [if_pos rfl, if_pos (by simp; assumption)]
        have hx0 : (r.take k).length ≤ 100000 := by simp; omega
        generalize r.take k = x0 at hx0 ⊢
        refine ewp_loop (fun x : Bs => ⟨[(0, .d (str x))], []⟩) (fun x => stripS x = stripS x0 ∧ x.length ≤ 100000) (fun x => x.length) x0 ⟨rfl, hx0⟩ (run_keep [0] [] (by simp; exact Gives.mk) (by simp; exact Gives.mk)) ?_
        rintro x ⟨hs1, hxl⟩
        have hst : stripS x = if 1 < x.length ∧ x[x.length - 1]?.getD 0 = 47 then stripS (x.take (x.length - 1)) else x := by rw [stripS]
        repeat' (first | (first | refine Ya ?_ | refine Yb ?_ | refine Yc ?_ | refine Yd ?_ | refine Ye ?_ | refine Yf ?_ | refine Yg ?_ | refine Yh ?_ | refine Yi ?_ | refine Yj ?_ | refine Yk ?_ | refine Yl ?_ | refine Ym ?_ | refine Yn ?_ | refine Yo ?_ | refine Yp (h := ?_) | refine Yq ?_ | refine Yr ?_ | refine Ys ?_ | refine Zr hc (hk := ?_) | refine Zd hc (hk := ?_) | (refine Zc (ht := fun hb => ?_) (hf := fun hb => ?_) <;> (try simp at hb)) | fail) | (first | refine Zo hc (hk := ?_) | refine Zu hc (hk := ?_) | refine Ze hc (hk := ?_) | refine Zn hc (hk := ?_) | fail))
        · refine ⟨x.take (x.length - 1), ⟨?_, by simp; omega⟩, by simp; omega, run_back [0] [] (by simp; exact Gives.mk) (by simp; exact Gives.mk) (by simp)⟩
          rw [← hs1, hst, if_pos ⟨by omega, byte47 hb.2⟩]
        · rw [← hs1, hst, if_neg (fun e => hb (by omega) (by rw [e.2]; rfl))]
          (refine Zl hc (hr := ?_))
          simp
      · rw [if_pos rfl, if_neg (by simp; assumption)]
        have hx0 : r.length ≤ 100000 := by omega
        generalize hxr : r = x0 at hx0 ⊢
        refine ewp_loop (fun x : Bs => ⟨[(0, .d (str x))], []⟩) (fun x => stripS x = stripS x0 ∧ x.length ≤ 100000) (fun x => x.length) x0 ⟨rfl, hx0⟩ (run_keep [0] [] (by simp; exact Gives.mk) (by simp; exact Gives.mk)) ?_
        rintro x ⟨hs1, hxl⟩
        have hst : stripS x = if 1 < x.length ∧ x[x.length - 1]?.getD 0 = 47 then stripS (x.take (x.length - 1)) else x := by rw [stripS]
        repeat' (first | (first | refine Ya ?_ | refine Yb ?_ | refine Yc ?_ | refine Yd ?_ | refine Ye ?_ | refine Yf ?_ | refine Yg ?_ | refine Yh ?_ | refine Yi ?_ | refine Yj ?_ | refine Yk ?_ | refine Yl ?_ | refine Ym ?_ | refine Yn ?_ | refine Yo ?_ | refine Yp (h := ?_) | refine Yq ?_ | refine Yr ?_ | refine Ys ?_ | refine Zr hc (hk := ?_) | refine Zd hc (hk := ?_) | (refine Zc (ht := fun hb => ?_) (hf := fun hb => ?_) <;> (try simp at hb)) | fail) | (first | refine Zo hc (hk := ?_) | refine Zu hc (hk := ?_) | refine Ze hc (hk := ?_) | refine Zn hc (hk := ?_) | fail))
        · refine ⟨x.take (x.length - 1), ⟨?_, by simp; omega⟩, by simp; omega, run_back [0] [] (by simp; exact Gives.mk) (by simp; exact Gives.mk) (by simp)⟩
          rw [← hs1, hst, if_pos ⟨by omega, byte47 hb.2⟩]
        · rw [← hs1, hst, if_neg (fun e => hb (by omega) (by rw [e.2]; rfl))]
          (refine Zl hc (hr := ?_))
          simp
  · rw [if_neg b3] at hr
    subst hr
    rw [decide_eq_false b3] at h3
    clear hs
    cases b4
    · repeat' (first | (first | refine Ya ?_ | refine Yb ?_ | refine Yc ?_ | refine Yd ?_ | refine Ye ?_ | refine Yf ?_ | refine Yg ?_ | refine Yh ?_ | refine Yi ?_ | refine Yj ?_ | refine Yk ?_ | refine Yl ?_ | refine Ym ?_ | refine Yn ?_ | refine Yo ?_ | refine Yp (h := ?_) | refine Yq ?_ | refine Yr ?_ | refine Ys ?_ | refine Zr hc (hk := ?_) | refine Zd hc (hk := ?_) | (refine Zc (ht := fun hb => ?_) (hf := fun hb => ?_) <;> (try simp at hb)) | fail) | (first | refine Zw hc (hf := by first | exact h3 | exact hB | exact h5 | exact h4) (hk := ?_) | refine Zq hc (hf := by first | exact h3 | exact hB | exact h5 | exact h4) (hk := ?_) | refine Zo hc (hk := ?_) | refine Zu hc (hk := ?_) | refine Ze hc (hk := ?_) | refine Zn hc (hk := ?_) | fail))
      · rw [if_neg (by simp), if_pos (by simp; assumption)]
        (refine Zl hc (hr := ?_))
        simp
      · rw [if_neg (by simp), if_neg (by simp; assumption)]
        (refine Zl hc (hr := ?_))
        simp
    · repeat' (first | (first | refine Ya ?_ | refine Yb ?_ | refine Yc ?_ | refine Yd ?_ | refine Ye ?_ | refine Yf ?_ | refine Yg ?_ | refine Yh ?_ | refine Yi ?_ | refine Yj ?_ | refine Yk ?_ | refine Yl ?_ | refine Ym ?_ | refine Yn ?_ | refine Yo ?_ | refine Yp (h := ?_) | refine Yq ?_ | refine Yr ?_ | refine Ys ?_ | refine Zr hc (hk := ?_) | refine Zd hc (hk := ?_) | (refine Zc (ht := fun hb => ?_) (hf := fun hb => ?_) <;> (try simp at hb)) | fail) | (first | refine Zw hc (hf := by first | exact h3 | exact hB | exact h5 | exact h4) (hk := ?_) | refine Zq hc (hf := by first | exact h3 | exact hB | exact h5 | exact h4) (hk := ?_) | refine Zo hc (hk := ?_) | refine Zu hc (hk := ?_) | refine Ze hc (hk := ?_) | refine Zn hc (hk := ?_) | fail))
      · rw [if_pos rfl, if_pos (by simp; assumption)]
        have hx0 : (r.take k).length ≤ 100000 := by simp; omega
        generalize r.take k = x0 at hx0 ⊢
        refine ewp_loop (fun x : Bs => ⟨[(0, .d (str x))], []⟩) (fun x => stripS x = stripS x0 ∧ x.length ≤ 100000) (fun x => x.length) x0 ⟨rfl, hx0⟩ (run_keep [0] [] (by simp; exact Gives.mk) (by simp; exact Gives.mk)) ?_
        rintro x ⟨hs1, hxl⟩
        have hst : stripS x = if 1 < x.length ∧ x[x.length - 1]?.getD 0 = 47 then stripS (x.take (x.length - 1)) else x := by rw [stripS]
        repeat' (first | (first | refine Ya ?_ | refine Yb ?_ | refine Yc ?_ | refine Yd ?_ | refine Ye ?_ | refine Yf ?_ | refine Yg ?_ | refine Yh ?_ | refine Yi ?_ | refine Yj ?_ | refine Yk ?_ | refine Yl ?_ | refine Ym ?_ | refine Yn ?_ | refine Yo ?_ | refine Yp (h := ?_) | refine Yq ?_ | refine Yr ?_ | refine Ys ?_ | refine Zr hc (hk := ?_) | refine Zd hc (hk := ?_) | (refine Zc (ht := fun hb => ?_) (hf := fun hb => ?_) <;> (try simp at hb)) | fail) | (first | refine Zo hc (hk := ?_) | refine Zu hc (hk := ?_) | refine Ze hc (hk := ?_) | refine Zn hc (hk := ?_) | fail))
        · refine ⟨x.take (x.length - 1), ⟨?_, by simp; omega⟩, by simp; omega, run_back [0] [] (by simp; exact Gives.mk) (by simp; exact Gives.mk) (by simp)⟩
          rw [← hs1, hst, if_pos ⟨by omega, byte47 hb.2⟩]
        · rw [← hs1, hst, if_neg (fun e => hb (by omega) (by rw [e.2]; rfl))]
          (refine Zl hc (hr := ?_))
          simp
      · rw [if_pos rfl, if_neg (by simp; assumption)]
        have hx0 : r.length ≤ 100000 := by omega
        generalize hxr : r = x0 at hx0 ⊢
        refine ewp_loop (fun x : Bs => ⟨[(0, .d (str x))], []⟩) (fun x => stripS x = stripS x0 ∧ x.length ≤ 100000) (fun x => x.length) x0 ⟨rfl, hx0⟩ (run_keep [0] [] (by simp; exact Gives.mk) (by simp; exact Gives.mk)) ?_
        rintro x ⟨hs1, hxl⟩
        have hst : stripS x = if 1 < x.length ∧ x[x.length - 1]?.getD 0 = 47 then stripS (x.take (x.length - 1)) else x := by rw [stripS]
        repeat' (first | (first | refine Ya ?_ | refine Yb ?_ | refine Yc ?_ | refine Yd ?_ | refine Ye ?_ | refine Yf ?_ | refine Yg ?_ | refine Yh ?_ | refine Yi ?_ | refine Yj ?_ | refine Yk ?_ | refine Yl ?_ | refine Ym ?_ | refine Yn ?_ | refine Yo ?_ | refine Yp (h := ?_) | refine Yq ?_ | refine Yr ?_ | refine Ys ?_ | refine Zr hc (hk := ?_) | refine Zd hc (hk := ?_) | (refine Zc (ht := fun hb => ?_) (hf := fun hb => ?_) <;> (try simp at hb)) | fail) | (first | refine Zo hc (hk := ?_) | refine Zu hc (hk := ?_) | refine Ze hc (hk := ?_) | refine Zn hc (hk := ?_) | fail))
        · refine ⟨x.take (x.length - 1), ⟨?_, by simp; omega⟩, by simp; omega, run_back [0] [] (by simp; exact Gives.mk) (by simp; exact Gives.mk) (by simp)⟩
          rw [← hs1, hst, if_pos ⟨by omega, byte47 hb.2⟩]
        · rw [← hs1, hst, if_neg (fun e => hb (by omega) (by rw [e.2]; rfl))]
          (refine Zl hc (hr := ?_))
          simp
end Go.Proofs.YtpmfmjgnhdfakaaGreatDoor
