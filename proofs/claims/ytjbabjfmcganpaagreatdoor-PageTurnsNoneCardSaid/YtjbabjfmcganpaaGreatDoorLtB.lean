/-
  PAGE: turns: isNormal, CheckTurns. (WITH run_drawN.)
-/
import Derived.Test.YtjbabjfmcganpaaGreatDoorNm
import Derived.Test.YtjbabjfmcganpaaGreatDoorLb
import Derived.Test.YtjbabjfmcganpaaGreatDoorPgAtt
import Derived.Test.YtjbabjfmcganpaaGreatDoorLkW
import Derived.Test.YtjbabjfmcganpaaGreatDoorAdX
import Derived.Test.YtjbabjfmcganpaaGreatDoorOwnD
import Derived.Test.YtjbabjfmcganpaaGreatDoorLwCalm
set_option linter.unusedSimpArgs false
set_option linter.unusedVariables false
namespace Go.Proofs.YtjbabjfmcganpaaGreatDoor
open Go.Lw Go.RowKit
set_option maxRecDepth 100000
set_option maxHeartbeats 1000000

/-- The text of the normal form of an address. -/
def plainR (a : Adr) : Bs := (textC (normalC a).1).1
theorem normalC_fits (a : Adr) : (normalC a).1.Fits := by
  have hz : Adr.zero.Fits := ⟨by simp, by simp, by simp, by simp, by simp, by simp⟩
  unfold normalC
  split
  · exact hz
  · rename_i h
    split
    · exact hz
    · exact norm_fits (Classical.not_not.1 h)
theorem plain_ok (a : Adr) (hf : a.Fits) : FnOk Tryz.prog 47 [adrD a] (str (plainR a)) := by
  refine fnOk Tryz.func47 rfl (by kernel_rfl) Tryz.ntmps47 _ rfl (by simp) fun C hc => ?_
  have hN := normal_ok' normal_is a hf
  have hT := text_ok (normalC a).1 (normalC_fits a)
  unfold plainR
  generalize normalC a = n at hN hT ⊢
  generalize textC n.1 = t at hT ⊢
  repeat' (first | (first | refine Ya ?_ | refine Yb ?_ | refine Yc ?_ | refine Yd ?_ | refine Ye ?_ | refine Yf ?_ | refine Yg ?_ | refine Yh ?_ | refine Yi ?_ | refine Yj ?_ | refine Yk ?_ | refine Yl ?_ | refine Ym ?_ | refine Yn ?_ | refine Yo ?_ | refine Yp (h := ?_) | refine Yq ?_ | refine Yr ?_ | refine Ys ?_ | refine Zr hc (hk := ?_) | refine Zd hc (hk := ?_) | (refine Zc (ht := fun hb => ?_) (hf := fun hb => ?_) <;> (try simp at hb)) | fail) | (first | refine Zw hc (hf := by first | exact hN | exact hT) (hk := ?_) | refine Zq hc (hf := by first | exact hN | exact hT) (hk := ?_) | refine Zo hc (hk := ?_) | refine Zu hc (hk := ?_) | refine Ze hc (hk := ?_) | refine Zn hc (hk := ?_) | fail))
  (refine Zl hc (hr := ?_))
  simp
def isNm (s : Bs) : Bool := decide ((readC s).2.2 = 0) && decide (plainR (readC s).1 = s)
theorem readC_fits (s : Bs) : (readC s).1.Fits := by
  have hz : Adr.zero.Fits := ⟨by simp, by simp, by simp, by simp, by simp, by simp⟩
  rcases readC_back s with ⟨_, h⟩ | ⟨_, _, h, _⟩
  · rw [h]; exact hz
  · exact chk_fits h
theorem isNormal_ok (s : Bs) (hm : s.length ≤ 9223372036854775807) : FnOk Tryz.prog 38 [str s] (tru (isNm s)) := by
  refine fnOk Tryz.func38 rfl (by kernel_rfl) Tryz.ntmps38 _ rfl (by simp) fun C hc => ?_
  have hR := read_ok s hm
  have hP := plain_ok (readC s).1 (readC_fits s)
  unfold isNm
  generalize readC s = r at hR hP ⊢
  obtain ⟨r, n, f⟩ := r
  simp only [readD] at hR hP ⊢
  generalize plainR r = q at hP ⊢
  by_cases h : f = 0
  · subst h
    repeat' (first | (first | refine Ya ?_ | refine Yb ?_ | refine Yc ?_ | refine Yd ?_ | refine Ye ?_ | refine Yf ?_ | refine Yg ?_ | refine Yh ?_ | refine Yi ?_ | refine Yj ?_ | refine Yk ?_ | refine Yl ?_ | refine Ym ?_ | refine Yn ?_ | refine Yo ?_ | refine Yp (h := ?_) | refine Yq ?_ | refine Yr ?_ | refine Ys ?_ | refine Zr hc (hk := ?_) | refine Zd hc (hk := ?_) | (refine Zc (ht := fun hb => ?_) (hf := fun hb => ?_) <;> (try simp at hb)) | fail) | (first | refine Zw hc (hf := by first | exact hR | exact hP) (hk := ?_) | refine Zq hc (hf := by first | exact hR | exact hP) (hk := ?_) | refine Zo hc (hk := ?_) | refine Zu hc (hk := ?_) | refine Ze hc (hk := ?_) | refine Zn hc (hk := ?_) | fail))
    all_goals try contradiction
    (refine Zl hc (hr := ?_))
    refine res_bool ?_
    rw [Bool.eq_iff_iff]; simp
  · repeat' (first | (first | refine Ya ?_ | refine Yb ?_ | refine Yc ?_ | refine Yd ?_ | refine Ye ?_ | refine Yf ?_ | refine Yg ?_ | refine Yh ?_ | refine Yi ?_ | refine Yj ?_ | refine Yk ?_ | refine Yl ?_ | refine Ym ?_ | refine Yn ?_ | refine Yo ?_ | refine Yp (h := ?_) | refine Yq ?_ | refine Yr ?_ | refine Ys ?_ | refine Zr hc (hk := ?_) | refine Zd hc (hk := ?_) | (refine Zc (ht := fun hb => ?_) (hf := fun hb => ?_) <;> (try simp at hb)) | fail) | (first | refine Zw hc (hf := by exact hR) (hk := ?_) | refine Zq hc (hf := by exact hR) (hk := ?_) | refine Zo hc (hk := ?_) | refine Zu hc (hk := ?_) | refine Ze hc (hk := ?_) | refine Zn hc (hk := ?_) | fail))
    all_goals try contradiction
    (refine Zl hc (hr := ?_))
    refine res_bool ?_
    rw [Bool.eq_iff_iff]; simp [h]
/-! Turns. -/
abbrev Trn := Bs × Bs
abbrev trnC (x : Trn) : List D := [str x.1, str x.2]
abbrev trnAt (L : List Trn) (j : Nat) : Trn := L[j]?.getD ([], [])
abbrev trnSl (L : List Trn) : D := .sl L.length fun i => trnC (trnAt L i)
abbrev badS : Bs := [34, 39, 40, 41, 44, 60, 62]
def toBad (s : Bs) (j : Nat) : Bool := if j < s.length then (if (s[j]?.getD 0).toNat < 33 ∨ 126 < (s[j]?.getD 0).toNat ∨ 0 ≤ Lib.indexByte badS (s[j]?.getD 0) then true else toBad s (j + 1)) else false
termination_by s.length - j
def trnGo (L : List Trn) (j : Nat) : Nat := if j < L.length then
    (if isNm (trnAt L j).1 = false then 3 else if (trnAt L j).2.length < 1 ∨ 2000 < (trnAt L j).2.length then 3 else if toBad (trnAt L j).2 0 = true then 3
     else if 0 < j ∧ leB (trnAt L j).1 (trnAt L (j - 1)).1 then 8 else trnGo L (j + 1)) else 0
termination_by L.length - j
def trnE (L : List Trn) : Nat := if 5000 < L.length then 2 else trnGo L 0
theorem trnGo_zero (L : List Trn) (j : Nat) (h : trnGo L j = 0) : ∀ i, j ≤ i → i < L.length → (trnAt L i).2.length ≤ 2000 ∧ (0 < i → ¬ leB (trnAt L i).1 (trnAt L (i - 1)).1) := by
  rw [trnGo] at h
  intro i h1 h2
  rw [if_pos (by omega)] at h
  split at h
  · cases h
  split at h
  · cases h
  split at h
  · cases h
  split at h
  · cases h
  rename_i k1 k2 k3 k4
  rcases Nat.lt_or_ge j i with h3 | h3
  · exact trnGo_zero L (j + 1) h i (by omega) h2
  · obtain rfl : i = j := by omega
    exact ⟨by omega, fun h0 hl => k4 ⟨h0, hl⟩⟩
termination_by L.length - j
abbrev frAt (L : List Trn) (j : Nat) : Bs := (trnAt L j).1
theorem trn_asc {L : List Trn} (h : trnE L = 0) : L.length ≤ 5000 ∧ ascB (frAt L) L.length ∧ ∀ i, (trnAt L i).2.length ≤ 2000 := by
  unfold trnE at h
  split at h
  · cases h
  rename_i hl
  have hz := trnGo_zero L 0 h
  refine ⟨by omega, ascB_of _ _ fun j h0 hj => (hz j (Nat.zero_le _) hj).2 h0, fun i => ?_⟩
  by_cases hi : i < L.length
  · exact (hz i (Nat.zero_le _) hi).1
  · unfold trnAt
    rw [List.getElem?_eq_none (by omega)]
    simp
theorem checkTurns_ok (L : List Trn) (hm : ∀ i, (trnAt L i).1.length ≤ 9223372036854775807 ∧ (trnAt L i).2.length ≤ 9223372036854775807) : FnOk Tryz.prog 18 [trnSl L] (int (trnE L)) := by
  refine fnOk Tryz.func18 rfl (by kernel_rfl) Tryz.ntmps18 _ rfl (by simp) fun C hc => ?_
  unfold trnE
  repeat' (first | (first | refine Ya ?_ | refine Yb ?_ | refine Yc ?_ | refine Yd ?_ | refine Ye ?_ | refine Yf ?_ | refine Yg ?_ | refine Yh ?_ | refine Yi ?_ | refine Yj ?_ | refine Yk ?_ | refine Yl ?_ | refine Ym ?_ | refine Yn ?_ | refine Yo ?_ | refine Yp (h := ?_) | refine Yq ?_ | refine Yr ?_ | refine Ys ?_ | refine Zr hc (hk := ?_) | refine Zd hc (hk := ?_) | (refine Zc (ht := fun hb => ?_) (hf := fun hb => ?_) <;> (try simp at hb)) | fail) | (first | refine Zo hc (hk := ?_) | refine Zu hc (hk := ?_) | refine Ze hc (hk := ?_) | refine Zn hc (hk := ?_) | fail))
  · rw [if_pos (by omega)]
    (refine Zl hc (hr := ?_))
    simp
  rw [if_neg (by omega)]
  refine ewp_loop (fun j : Nat => ⟨[(0, .d (trnSl L)), (10, .d (trnSl L)), (11, .d (int L.length)), (12, .d (int j))], []⟩) (fun j => j ≤ L.length ∧ trnGo L 0 = trnGo L j) (fun j => L.length - j) 0 (by simp) (run_keep [0, 10, 11, 12] [] (by simp; exact Gives.mk) (by simp; exact Gives.mk)) ?_
  rintro j ⟨hj, hA⟩
  have hst : trnGo L j = if j < L.length then
    (if isNm (trnAt L j).1 = false then 3 else if (trnAt L j).2.length < 1 ∨ 2000 < (trnAt L j).2.length then 3 else if toBad (trnAt L j).2 0 = true then 3
     else if 0 < j ∧ leB (trnAt L j).1 (trnAt L (j - 1)).1 then 8 else trnGo L (j + 1)) else 0 := by rw [trnGo]
  by_cases hlt : j < L.length
  rotate_left
  · rw [hA, hst, if_neg hlt]
    repeat' (first | (first | refine Ya ?_ | refine Yb ?_ | refine Yc ?_ | refine Yd ?_ | refine Ye ?_ | refine Yf ?_ | refine Yg ?_ | refine Yh ?_ | refine Yi ?_ | refine Yj ?_ | refine Yk ?_ | refine Yl ?_ | refine Ym ?_ | refine Yn ?_ | refine Yo ?_ | refine Yp (h := ?_) | refine Yq ?_ | refine Yr ?_ | refine Ys ?_ | refine Zr hc (hk := ?_) | refine Zd hc (hk := ?_) | (refine Zc (ht := fun hb => ?_) (hf := fun hb => ?_) <;> (try simp at hb)) | fail) | (first | refine Zo hc (hk := ?_) | refine Zu hc (hk := ?_) | refine Ze hc (hk := ?_) | refine Zn hc (hk := ?_) | fail))
    all_goals try (exfalso; omega)
    (refine Zl hc (hr := ?_))
    simp
  have hN := isNormal_ok (trnAt L j).1 (hm j).1
  have hm2 := (hm j).2
  rw [if_pos hlt] at hst
  generalize isNm (trnAt L j).1 = b at hN hst
  cases b with
  | false =>
    rw [hA, hst, if_pos rfl]
    repeat' (first | (first | refine Ya ?_ | refine Yb ?_ | refine Yc ?_ | refine Yd ?_ | refine Ye ?_ | refine Yf ?_ | refine Yg ?_ | refine Yh ?_ | refine Yi ?_ | refine Yj ?_ | refine Yk ?_ | refine Yl ?_ | refine Ym ?_ | refine Yn ?_ | refine Yo ?_ | refine Yp (h := ?_) | refine Yq ?_ | refine Yr ?_ | refine Ys ?_ | refine Zr hc (hk := ?_) | refine Zd hc (hk := ?_) | (refine Zc (ht := fun hb => ?_) (hf := fun hb => ?_) <;> (try simp at hb)) | fail) | (first | refine Zw hc (hf := by exact hN) (hk := ?_) | refine Zq hc (hf := by exact hN) (hk := ?_) | refine Zo hc (hk := ?_) | refine Zu hc (hk := ?_) | refine Ze hc (hk := ?_) | refine Zn hc (hk := ?_) | fail))
    all_goals try contradiction
    all_goals try (exfalso; omega)
    (refine Zl hc (hr := ?_))
    simp
  | true =>
    rw [if_neg (show ¬ true = false by decide)] at hst
    by_cases h2 : (trnAt L j).2.length < 1 ∨ 2000 < (trnAt L j).2.length
    · rw [hA, hst, if_pos h2]
      repeat' (first | (first | refine Ya ?_ | refine Yb ?_ | refine Yc ?_ | refine Yd ?_ | refine Ye ?_ | refine Yf ?_ | refine Yg ?_ | refine Yh ?_ | refine Yi ?_ | refine Yj ?_ | refine Yk ?_ | refine Yl ?_ | refine Ym ?_ | refine Yn ?_ | refine Yo ?_ | refine Yp (h := ?_) | refine Yq ?_ | refine Yr ?_ | refine Ys ?_ | refine Zr hc (hk := ?_) | refine Zd hc (hk := ?_) | (refine Zc (ht := fun hb => ?_) (hf := fun hb => ?_) <;> (try simp at hb)) | fail) | (first | refine Zw hc (hf := by exact hN) (hk := ?_) | refine Zq hc (hf := by exact hN) (hk := ?_) | refine Zo hc (hk := ?_) | refine Zu hc (hk := ?_) | refine Ze hc (hk := ?_) | refine Zn hc (hk := ?_) | fail))
      all_goals try contradiction
      all_goals try (exfalso; omega)
      (refine Zl hc (hr := ?_))
      simp
    rw [if_neg h2] at hst
    repeat' (first | (first | refine Ya ?_ | refine Yb ?_ | refine Yc ?_ | refine Yd ?_ | refine Ye ?_ | refine Yf ?_ | refine Yg ?_ | refine Yh ?_ | refine Yi ?_ | refine Yj ?_ | refine Yk ?_ | refine Yl ?_ | refine Ym ?_ | refine Yn ?_ | refine Yo ?_ | refine Yp (h := ?_) | refine Yq ?_ | refine Yr ?_ | refine Ys ?_ | refine Zr hc (hk := ?_) | refine Zd hc (hk := ?_) | (refine Zc (ht := fun hb => ?_) (hf := fun hb => ?_) <;> (try simp at hb)) | fail) | (first | refine Zw hc (hf := by exact hN) (hk := ?_) | refine Zq hc (hf := by exact hN) (hk := ?_) | refine Zo hc (hk := ?_) | refine Zu hc (hk := ?_) | refine Ze hc (hk := ?_) | refine Zn hc (hk := ?_) | fail))
    all_goals try contradiction
    all_goals try (exfalso; omega)
    refine ewp_loop (fun k : Nat => ⟨[(0, .d (trnSl L)), (3, .d (int j)), (4, .bp 4 0), (10, .d (trnSl L)), (11, .d (int L.length)), (12, .d (int j)), (33, .d (int (trnAt L j).2.length)), (34, .d (int k))], [(4, .box 92 [.d (str (trnAt L j).1), .d (str (trnAt L j).2)])]⟩) (fun k => k ≤ (trnAt L j).2.length ∧ toBad (trnAt L j).2 0 = toBad (trnAt L j).2 k) (fun k => (trnAt L j).2.length - k) 0 (by simp) (run_keep [0, 3, 4, 10, 11, 12, 33, 34] [4] (by simp; exact Gives.mk) (by simp; exact Gives.mk)) ?_
    rintro k ⟨hk, hB⟩
    have hbs : toBad (trnAt L j).2 k = if k < (trnAt L j).2.length then (if ((trnAt L j).2[k]?.getD 0).toNat < 33 ∨ 126 < ((trnAt L j).2[k]?.getD 0).toNat ∨ 0 ≤ Lib.indexByte badS ((trnAt L j).2[k]?.getD 0) then true else toBad (trnAt L j).2 (k + 1)) else false := by rw [toBad]
    by_cases hkl : k < (trnAt L j).2.length
    · rw [if_pos hkl] at hbs
      have hI := indexByte_ok badS ((trnAt L j).2[k]?.getD 0)
      generalize Lib.indexByte badS ((trnAt L j).2[k]?.getD 0) = ib at hI hbs
      by_cases hc3 : ((trnAt L j).2[k]?.getD 0).toNat < 33 ∨ 126 < ((trnAt L j).2[k]?.getD 0).toNat ∨ 0 ≤ ib
      · rw [if_pos hc3] at hbs
        rw [hA, hst, if_pos (hB.trans hbs)]
        repeat' (first | (first | refine Ya ?_ | refine Yb ?_ | refine Yc ?_ | refine Yd ?_ | refine Ye ?_ | refine Yf ?_ | refine Yg ?_ | refine Yh ?_ | refine Yi ?_ | refine Yj ?_ | refine Yk ?_ | refine Yl ?_ | refine Ym ?_ | refine Yn ?_ | refine Yo ?_ | refine Yp (h := ?_) | refine Yq ?_ | refine Yr ?_ | refine Ys ?_ | refine Zr hc (hk := ?_) | refine Zd hc (hk := ?_) | (refine Zc (ht := fun hb => ?_) (hf := fun hb => ?_) <;> (try simp at hb)) | fail) | (first | refine Zw hc (hf := by exact hI) (hk := ?_) | refine Zq hc (hf := by exact hI) (hk := ?_) | refine Zo hc (hk := ?_) | refine Zu hc (hk := ?_) | refine Ze hc (hk := ?_) | refine Zn hc (hk := ?_) | fail))
        all_goals try contradiction
        all_goals try (exfalso; omega)
        (refine Zl hc (hr := ?_))
        simp
      · rw [if_neg hc3] at hbs
        repeat' (first | (first | refine Ya ?_ | refine Yb ?_ | refine Yc ?_ | refine Yd ?_ | refine Ye ?_ | refine Yf ?_ | refine Yg ?_ | refine Yh ?_ | refine Yi ?_ | refine Yj ?_ | refine Yk ?_ | refine Yl ?_ | refine Ym ?_ | refine Yn ?_ | refine Yo ?_ | refine Yp (h := ?_) | refine Yq ?_ | refine Yr ?_ | refine Ys ?_ | refine Zr hc (hk := ?_) | refine Zd hc (hk := ?_) | (refine Zc (ht := fun hb => ?_) (hf := fun hb => ?_) <;> (try simp at hb)) | fail) | (first | refine Zw hc (hf := by exact hI) (hk := ?_) | refine Zq hc (hf := by exact hI) (hk := ?_) | refine Zo hc (hk := ?_) | refine Zu hc (hk := ?_) | refine Ze hc (hk := ?_) | refine Zn hc (hk := ?_) | fail))
        all_goals try contradiction
        all_goals try (exfalso; omega)
        exact ⟨k + 1, ⟨by omega, hB.trans hbs⟩, by omega, run_back [0, 3, 4, 10, 11, 12, 33, 34] [4] (by simp; exact Gives.mk) (by simp; exact Gives.mk) (by simp)⟩
    · rw [if_neg hkl] at hbs
      rw [if_neg (by rw [hB, hbs]; decide)] at hst
      by_cases h0 : 0 < j
      · have e : ((j : Int) - 1).toNat = j - 1 := by omega
        repeat' (first | (first | refine Ya ?_ | refine Yb ?_ | refine Yc ?_ | refine Yd ?_ | refine Ye ?_ | refine Yf ?_ | refine Yg ?_ | refine Yh ?_ | refine Yi ?_ | refine Yj ?_ | refine Yk ?_ | refine Yl ?_ | refine Ym ?_ | refine Yn ?_ | refine Yo ?_ | refine Yp (h := ?_) | refine Yq ?_ | refine Yr ?_ | refine Ys ?_ | refine Zr hc (hk := ?_) | refine Zd hc (hk := ?_) | (refine Zc (ht := fun hb => ?_) (hf := fun hb => ?_) <;> (try simp at hb)) | fail) | (first | refine Zo hc (hk := ?_) | refine Zu hc (hk := ?_) | refine Ze hc (hk := ?_) | refine Zn hc (hk := ?_) | fail))
        all_goals try contradiction
        all_goals try (exfalso; omega)
        · rw [hA, hst, if_pos ⟨h0, by simp_all⟩]
          (refine Zl hc (hr := ?_))
          simp
        · exact ⟨j + 1, ⟨by omega, by rw [hA, hst, if_neg (by simp_all)]⟩, by omega, run_back [0, 10, 11, 12] [] (by simp; exact Gives.mk) (by simp; exact Gives.mk) (by simp)⟩
      · rw [if_neg (fun h => h0 h.1)] at hst
        repeat' (first | (first | refine Ya ?_ | refine Yb ?_ | refine Yc ?_ | refine Yd ?_ | refine Ye ?_ | refine Yf ?_ | refine Yg ?_ | refine Yh ?_ | refine Yi ?_ | refine Yj ?_ | refine Yk ?_ | refine Yl ?_ | refine Ym ?_ | refine Yn ?_ | refine Yo ?_ | refine Yp (h := ?_) | refine Yq ?_ | refine Yr ?_ | refine Ys ?_ | refine Zr hc (hk := ?_) | refine Zd hc (hk := ?_) | (refine Zc (ht := fun hb => ?_) (hf := fun hb => ?_) <;> (try simp at hb)) | fail) | (first | refine Zo hc (hk := ?_) | refine Zu hc (hk := ?_) | refine Ze hc (hk := ?_) | refine Zn hc (hk := ?_) | fail))
        all_goals try contradiction
        all_goals try (exfalso; omega)
        exact ⟨j + 1, ⟨by omega, hA.trans hst⟩, by omega, run_back [0, 10, 11, 12] [] (by simp; exact Gives.mk) (by simp; exact Gives.mk) (by simp)⟩
end Go.Proofs.YtjbabjfmcganpaaGreatDoor
/-
  PAGE: turns: a link is turned; a value; what is written; what is applied. (WITH run_drawN.)
-/
set_option linter.unusedSimpArgs false
set_option linter.unusedVariables false
namespace Go.Proofs.YtjbabjfmcganpaaGreatDoor
open Go.Lw Go.RowKit
set_option maxRecDepth 100000
set_option maxHeartbeats 1000000

theorem turnCmp_ok (x : Trn) (s : Bs) : FnOk Tryz.prog 48 [.agg (trnC x), str s] (int (Lib.compareBytes x.1 s)) := by
  refine fnOk Tryz.func48 rfl (by kernel_rfl) Tryz.ntmps48 _ rfl (by simp) fun C hc => ?_
  have h1 := strCompare_ok x.1 s
  repeat' (first | (first | refine Ya ?_ | refine Yb ?_ | refine Yc ?_ | refine Yd ?_ | refine Ye ?_ | refine Yf ?_ | refine Yg ?_ | refine Yh ?_ | refine Yi ?_ | refine Yj ?_ | refine Yk ?_ | refine Yl ?_ | refine Ym ?_ | refine Yn ?_ | refine Yo ?_ | refine Yp (h := ?_) | refine Yq ?_ | refine Yr ?_ | refine Ys ?_ | refine Zr hc (hk := ?_) | refine Zd hc (hk := ?_) | (refine Zc (ht := fun hb => ?_) (hf := fun hb => ?_) <;> (try simp at hb)) | fail) | (first | refine Zw hc (hf := by exact h1) (hk := ?_) | refine Zq hc (hf := by exact h1) (hk := ?_) | refine Zo hc (hk := ?_) | refine Zu hc (hk := ?_) | refine Ze hc (hk := ?_) | refine Zn hc (hk := ?_) | fail))
  (refine Zl hc (hr := ?_))
  simp
theorem bsTrn_ok (H : List Trn) (s : Bs) (hl : H.length ≤ 5000) (ha : ascB (frAt H) H.length) : FnOk Tryz.prog 46 [trnSl H, str s, .lit (.func (.func 48) #[] #[])]
    (.tup [int (lbB (frAt H) H.length s), tru (thereB (frAt H) H.length s)]) := by
  refine fnOk Tryz.func46 rfl (by kernel_rfl) Tryz.ntmps46 _ rfl (by simp) fun C hc => ?_
  repeat' (first | (first | refine Ya ?_ | refine Yb ?_ | refine Yc ?_ | refine Yd ?_ | refine Ye ?_ | refine Yf ?_ | refine Yg ?_ | refine Yh ?_ | refine Yi ?_ | refine Yj ?_ | refine Yk ?_ | refine Yl ?_ | refine Ym ?_ | refine Yn ?_ | refine Yo ?_ | refine Yp (h := ?_) | refine Yq ?_ | refine Yr ?_ | refine Ys ?_ | refine Zr hc (hk := ?_) | refine Zd hc (hk := ?_) | (refine Zc (ht := fun hb => ?_) (hf := fun hb => ?_) <;> (try simp at hb)) | fail) | (first | refine Zo hc (hk := ?_) | refine Zu hc (hk := ?_) | refine Ze hc (hk := ?_) | refine Zn hc (hk := ?_) | fail))
  refine ewp_loop (fun x : Nat × Nat => ⟨[(0, .d (trnSl H)), (1, .d (str s)), (2, .d (.lit (.func (.func 48) #[] #[]))), (8, .d (int H.length)), (9, .d (int x.1)), (10, .d (int x.2))], []⟩)
    (fun x => x.1 ≤ x.2 ∧ x.2 ≤ H.length ∧ (∀ j, j < x.1 → Op.bytesLess (frAt H j) s = true) ∧ (x.2 < H.length → Op.bytesLess (frAt H x.2) s = false)) (fun x => x.2 - x.1) (0, H.length) (by simp) (run_keep [0, 1, 2, 8, 9, 10] [] (by simp; exact Gives.mk) (by simp; exact Gives.mk)) ?_
  rintro ⟨i, j⟩ ⟨h1, h2, h3, h4⟩
  simp only at h1 h2 h3 h4 ⊢
  by_cases hij : i < j
  · obtain ⟨m, hm, hm1, hm2⟩ : ∃ m : Nat, (i + j) / 2 = m ∧ i ≤ m ∧ m < j := ⟨_, rfl, by omega, by omega⟩
    have hC := turnCmp_ok (trnAt H m) s
    have hneg := cmp_neg (trnAt H m).1 s
    generalize Lib.compareBytes (trnAt H m).1 s = c at hC hneg
    have hfd := half_of hm
    repeat' (first | (first | refine ewp_seq ?_ | refine run_region hc (by simp [hfd]; exact Ends.go) (by first | exact True.intro | omega | assumption | (simp; done) | (simp; omega) | (simp at *; omega)) ?_ | refine run_draw hc (by kernel_rfl) (by kernel_rfl) (by simp [hfd]; exact Ends.go) (by first | exact True.intro | omega | assumption | (simp; done) | (simp; omega) | (simp at *; omega)) ?_ | refine ewp_scope ?_ | refine scopeQ_normal ?_ | refine scopeQ_ret ?_ | refine scopeQ_exit ?_ | refine ewp_skip ?_ | refine ewp_block ?_ | refine ewp_exit ?_ | refine ewp_label ?_ | refine thenQ_normal ?_ | refine thenQ_ret ?_ | refine thenQ_exit ?_ | refine blockQ_normal ?_ | refine blockQ_ret ?_ | refine blockQ_here ?_ | refine blockQ_there (by decide) ?_ | refine ewp_ret ?_ | refine opsW_nil ?_ | refine quietW_nil ?_ | (refine run_cond (by simp [hfd]; exact Gives.mk) (fun hb => ?_) (fun hb => ?_) <;> (try simp at hb)) | fail) | (first | refine run_callW hc (by simp [hfd]; exact Gives.mk) (by simp [hfd]; exact Gives.mk) (by simp [hfd]; exact Gives.mk) (by simp [hfd]; exact Gives.mk) (by simp [hfd]; exact Gives.mk) (fun _ => by first | exact hC) (by simp) (by simp) ?_ | refine run_callQ hc (by simp [hfd]; exact Gives.mk) (by simp [hfd]; exact Gives.mk) (by simp [hfd]; exact Gives.mk) (by simp [hfd]; exact Gives.mk) (by simp [hfd]; exact Gives.mk) (fun _ => by first | exact hC) (by simp) (by simp) ?_ | refine run_ops hc (by simp [hfd]; first | exact Ends.go | exact Ends.halt) (by decide) (by first | exact True.intro | omega | assumption | (simp; done) | (simp; omega) | (simp at *; omega)) ?_ | refine run_quiet hc (by simp [hfd]; first | exact Ends.go | exact Ends.halt) (by decide) (by first | exact True.intro | omega | assumption | (simp; done) | (simp; omega) | (simp at *; omega)) ?_ | refine run_regionW hc (by simp [hfd]; exact Ends.halt) (by first | exact True.intro | omega | assumption | (simp; done) | (simp; omega) | (simp at *; omega)) ?_ | refine run_drawN hc (by kernel_rfl) (by decide) (by kernel_rfl) (by simp [hfd]; exact Ends.halt) (by first | exact True.intro | omega | assumption | (simp; done) | (simp; omega) | (simp at *; omega)) ?_ | fail))
    all_goals try (exfalso; omega)
    · have hk := hneg.1 hb
      exact ⟨(m + 1, j), ⟨by simp only; omega, h2, fun t ht => by
        simp only at ht
        rcases Nat.lt_or_ge t m with h | h
        · exact bl_trans (ha t m h (by omega)) hk
        · obtain rfl : t = m := by omega
          exact hk, h4⟩, by simp only; omega, run_back [0, 1, 2, 8, 9, 10] [] (by simp; exact Gives.mk) (by simp; exact Gives.mk) (by simp)⟩
    · have hk : Op.bytesLess (frAt H m) s = false := Bool.eq_false_iff.2 fun e => by
        have := hneg.2 e
        omega
      exact ⟨(i, m), ⟨by simp only; omega, by simp only; omega, h3, fun _ => hk⟩, by simp only; omega, run_back [0, 1, 2, 8, 9, 10] [] (by simp; exact Gives.mk) (by simp; exact Gives.mk) (by simp)⟩
  · obtain rfl : i = j := by omega
    have e := lbB_of h2 h3 h4
    repeat' (first | (first | refine Ya ?_ | refine Yb ?_ | refine Yc ?_ | refine Yd ?_ | refine Ye ?_ | refine Yf ?_ | refine Yg ?_ | refine Yh ?_ | refine Yi ?_ | refine Yj ?_ | refine Yk ?_ | refine Yl ?_ | refine Ym ?_ | refine Yn ?_ | refine Yo ?_ | refine Yp (h := ?_) | refine Yq ?_ | refine Yr ?_ | refine Ys ?_ | refine Zr hc (hk := ?_) | refine Zd hc (hk := ?_) | (refine Zc (ht := fun hb => ?_) (hf := fun hb => ?_) <;> (try simp at hb)) | fail) | (first | refine Zo hc (hk := ?_) | refine Zu hc (hk := ?_) | refine Ze hc (hk := ?_) | refine Zn hc (hk := ?_) | fail))
    all_goals try (exfalso; omega)
    unfold thereB
    rw [e]
    by_cases hn : i < H.length
    · have hC := turnCmp_ok (trnAt H i) s
      have hz := cmp_zero (trnAt H i).1 s
      generalize Lib.compareBytes (trnAt H i).1 s = c at hC hz
      repeat' (first | (first | refine ewp_seq ?_ | refine run_region hc (by simp [hn]; exact Ends.go) (by first | exact True.intro | omega | assumption | (simp; done) | (simp; omega) | (simp at *; omega)) ?_ | refine run_draw hc (by kernel_rfl) (by kernel_rfl) (by simp [hn]; exact Ends.go) (by first | exact True.intro | omega | assumption | (simp; done) | (simp; omega) | (simp at *; omega)) ?_ | refine ewp_scope ?_ | refine scopeQ_normal ?_ | refine scopeQ_ret ?_ | refine scopeQ_exit ?_ | refine ewp_skip ?_ | refine ewp_block ?_ | refine ewp_exit ?_ | refine ewp_label ?_ | refine thenQ_normal ?_ | refine thenQ_ret ?_ | refine thenQ_exit ?_ | refine blockQ_normal ?_ | refine blockQ_ret ?_ | refine blockQ_here ?_ | refine blockQ_there (by decide) ?_ | refine ewp_ret ?_ | refine opsW_nil ?_ | refine quietW_nil ?_ | (refine run_cond (by simp [hn]; exact Gives.mk) (fun hb => ?_) (fun hb => ?_) <;> (try simp at hb)) | fail) | (first | refine run_callW hc (by simp [hn]; exact Gives.mk) (by simp [hn]; exact Gives.mk) (by simp [hn]; exact Gives.mk) (by simp [hn]; exact Gives.mk) (by simp [hn]; exact Gives.mk) (fun _ => by first | exact hC) (by simp) (by simp) ?_ | refine run_callQ hc (by simp [hn]; exact Gives.mk) (by simp [hn]; exact Gives.mk) (by simp [hn]; exact Gives.mk) (by simp [hn]; exact Gives.mk) (by simp [hn]; exact Gives.mk) (fun _ => by first | exact hC) (by simp) (by simp) ?_ | refine run_ops hc (by simp [hn]; first | exact Ends.go | exact Ends.halt) (by decide) (by first | exact True.intro | omega | assumption | (simp; done) | (simp; omega) | (simp at *; omega)) ?_ | refine run_quiet hc (by simp [hn]; first | exact Ends.go | exact Ends.halt) (by decide) (by first | exact True.intro | omega | assumption | (simp; done) | (simp; omega) | (simp at *; omega)) ?_ | refine run_regionW hc (by simp [hn]; exact Ends.halt) (by first | exact True.intro | omega | assumption | (simp; done) | (simp; omega) | (simp at *; omega)) ?_ | refine run_drawN hc (by kernel_rfl) (by decide) (by kernel_rfl) (by simp [hn]; exact Ends.halt) (by first | exact True.intro | omega | assumption | (simp; done) | (simp; omega) | (simp at *; omega)) ?_ | fail))
      (refine Zl hc (hr := ?_))
      have e2 : (c == 0) = decide (frAt H i = s) := by
        rw [Bool.eq_iff_iff]
        simpa using hz
      simp [hn, e2]
    · repeat' (first | (first | refine ewp_seq ?_ | refine run_region hc (by simp [hn]; exact Ends.go) (by first | exact True.intro | omega | assumption | (simp; done) | (simp; omega) | (simp at *; omega)) ?_ | refine run_draw hc (by kernel_rfl) (by kernel_rfl) (by simp [hn]; exact Ends.go) (by first | exact True.intro | omega | assumption | (simp; done) | (simp; omega) | (simp at *; omega)) ?_ | refine ewp_scope ?_ | refine scopeQ_normal ?_ | refine scopeQ_ret ?_ | refine scopeQ_exit ?_ | refine ewp_skip ?_ | refine ewp_block ?_ | refine ewp_exit ?_ | refine ewp_label ?_ | refine thenQ_normal ?_ | refine thenQ_ret ?_ | refine thenQ_exit ?_ | refine blockQ_normal ?_ | refine blockQ_ret ?_ | refine blockQ_here ?_ | refine blockQ_there (by decide) ?_ | refine ewp_ret ?_ | refine opsW_nil ?_ | refine quietW_nil ?_ | (refine run_cond (by simp [hn]; exact Gives.mk) (fun hb => ?_) (fun hb => ?_) <;> (try simp at hb)) | fail) | (first | refine run_skip hc (by simp [hn]; exact Gives.mk) (by simp) ?_ | fail) | (first | refine run_callW hc (by simp [hn]; exact Gives.mk) (by simp [hn]; exact Gives.mk) (by simp [hn]; exact Gives.mk) (by simp [hn]; exact Gives.mk) (by simp [hn]; exact Gives.mk) (fun _ => by first | exact (show FnOk _ _ _ (int 0) from by exfalso; simp_all; done)) (by simp) (by simp) ?_ | refine run_callQ hc (by simp [hn]; exact Gives.mk) (by simp [hn]; exact Gives.mk) (by simp [hn]; exact Gives.mk) (by simp [hn]; exact Gives.mk) (by simp [hn]; exact Gives.mk) (fun _ => by first | exact (show FnOk _ _ _ (int 0) from by exfalso; simp_all; done)) (by simp) (by simp) ?_ | refine run_ops hc (by simp [hn]; first | exact Ends.go | exact Ends.halt) (by decide) (by first | exact True.intro | omega | assumption | (simp; done) | (simp; omega) | (simp at *; omega)) ?_ | refine run_quiet hc (by simp [hn]; first | exact Ends.go | exact Ends.halt) (by decide) (by first | exact True.intro | omega | assumption | (simp; done) | (simp; omega) | (simp at *; omega)) ?_ | refine run_regionW hc (by simp [hn]; exact Ends.halt) (by first | exact True.intro | omega | assumption | (simp; done) | (simp; omega) | (simp at *; omega)) ?_ | refine run_drawN hc (by kernel_rfl) (by decide) (by kernel_rfl) (by simp [hn]; exact Ends.halt) (by first | exact True.intro | omega | assumption | (simp; done) | (simp; omega) | (simp at *; omega)) ?_ | fail))
      (refine Zl hc (hr := ?_))
      simp [hn]
theorem containsS_ok (s p : Bs) (hs : s.length < 4294967281) : FnOk Tryz.prog 50 [str s, str p] (tru (decide (0 ≤ Lib.index s p))) := by
  refine fnOk Tryz.func50 rfl (by kernel_rfl) Tryz.ntmps50 _ rfl (by simp) fun C hc => ?_
  have hI := index_ok s p hs
  generalize Lib.index s p = r at hI ⊢
  repeat' (first | (first | refine Ya ?_ | refine Yb ?_ | refine Yc ?_ | refine Yd ?_ | refine Ye ?_ | refine Yf ?_ | refine Yg ?_ | refine Yh ?_ | refine Yi ?_ | refine Yj ?_ | refine Yk ?_ | refine Yl ?_ | refine Ym ?_ | refine Yn ?_ | refine Yo ?_ | refine Yp (h := ?_) | refine Yq ?_ | refine Yr ?_ | refine Ys ?_ | refine Zr hc (hk := ?_) | refine Zd hc (hk := ?_) | (refine Zc (ht := fun hb => ?_) (hf := fun hb => ?_) <;> (try simp at hb)) | fail) | (first | refine Zw hc (hf := by exact hI) (hk := ?_) | refine Zq hc (hf := by exact hI) (hk := ?_) | refine Zo hc (hk := ?_) | refine Zu hc (hk := ?_) | refine Ze hc (hk := ?_) | refine Zn hc (hk := ?_) | fail))
  (refine Zl hc (hr := ?_))
  simp
/-- A turner. -/
abbrev tur (x : Nat) (T : List Trn) (n : Nat) : List (Nat × O) := [(x, .box 56 [.d (trnSl T), .d (int n)])]
/-- Is a link turned, and into what? -/
def turnB (T : List Trn) (x : Lnk) : Bool := x.leads && thereB (frAt T) T.length (plainR x.dest)
def turnT (T : List Trn) (x : Lnk) : Bs :=
  if x.dest.hasF = true ∧ ¬ 0 ≤ Lib.index (trnAt T (lbB (frAt T) T.length (plainR x.dest))).2 [35] then (trnAt T (lbB (frAt T) T.length (plainR x.dest))).2 ++ 35 :: x.dest.frag else (trnAt T (lbB (frAt T) T.length (plainR x.dest))).2
structure LnkIn (x : Lnk) : Prop where
  fits : x.dest.Fits
  frag : x.dest.frag.length ≤ 2000
theorem lnkIn_none : LnkIn Lnk.none := ⟨⟨by simp, by simp, by simp, by simp, by simp, by simp⟩, by simp⟩
theorem lnkIn_get {L : List Lnk} (h : ∀ x ∈ L, LnkIn x) (i : Nat) : LnkIn (L[i]?.getD Lnk.none) := by
  by_cases hi : i < L.length
  · rw [List.getElem?_eq_getElem hi]
    exact h _ (List.getElem_mem hi)
  · rw [List.getElem?_eq_none (by omega)]
    exact lnkIn_none
theorem turnT_len {T : List Trn} (hT : trnE T = 0) {x : Lnk} (hx : LnkIn x) : (turnT T x).length ≤ 4001 := by
  have h := (trn_asc hT).2.2 (lbB (frAt T) T.length (plainR x.dest))
  have h2 := hx.frag
  unfold turnT
  split
  · simp only [List.length_append, List.length_cons]; omega
  · omega
theorem turned_ok (T : List Trn) (hT : trnE T = 0) (x : Lnk) (hx : LnkIn x) (n : Nat) (hn : n ≤ 1000000000) :
    FnMem Tryz.prog 21 [.bp 100000 0, .d (.agg (encL x))] (tur 100000 T n) (.d (.tup [str (if turnB T x = true then turnT T x else []), tru (turnB T x)])) (tur 100000 T (if turnB T x = true then n + 1 else n)) := by
  refine fnMem Tryz.func21 rfl (by kernel_rfl) Tryz.ntmps21 _ rfl (by simp) fun C hc => ?_
  obtain ⟨hTl, hTa, hTs⟩ := trn_asc hT
  have hP := plain_ok x.dest hx.fits
  have hB := bsTrn_ok T (plainR x.dest) hTl hTa
  have hlb := (lbB_spec (frAt T) T.length (plainR x.dest)).1
  have hfr := hx.frag
  unfold turnB turnT
  have hth : thereB (frAt T) T.length (plainR x.dest) = true → lbB (frAt T) T.length (plainR x.dest) < T.length := fun h => by
    unfold thereB at h
    simp only [Bool.and_eq_true, decide_eq_true_eq] at h
    exact h.1
  generalize plainR x.dest = pl at hP hB hlb hth ⊢
  generalize thereB (frAt T) T.length pl = th at hB hth ⊢
  generalize lbB (frAt T) T.length pl = k at hB hlb hth ⊢
  obtain ⟨xk, xt, xf, xl, xd, xs⟩ := x
  simp only at hP hfr ⊢
  cases xs with
  | false =>
    repeat' (first | (first | refine Ya ?_ | refine Yb ?_ | refine Yc ?_ | refine Yd ?_ | refine Ye ?_ | refine Yf ?_ | refine Yg ?_ | refine Yh ?_ | refine Yi ?_ | refine Yj ?_ | refine Yk ?_ | refine Yl ?_ | refine Ym ?_ | refine Yn ?_ | refine Yo ?_ | refine Yp (h := ?_) | refine Yq ?_ | refine Yr ?_ | refine Ys ?_ | refine Zr hc (hk := ?_) | refine Zd hc (hk := ?_) | (refine Zc (ht := fun hb => ?_) (hf := fun hb => ?_) <;> (try simp at hb)) | fail) | (first | refine Zo hc (hk := ?_) | refine Zu hc (hk := ?_) | refine Ze hc (hk := ?_) | refine Zn hc (hk := ?_) | fail))
    all_goals try contradiction
    (refine run_leaveM [100000] hc (le_end rfl) (by simp; exact Gives.mk) (by simp; exact Gives.mk) (by first | (simp; done) | (simp; omega)) ?_)
    simp
  | true =>
    cases th with
    | false =>
      repeat' (first | (first | refine Ya ?_ | refine Yb ?_ | refine Yc ?_ | refine Yd ?_ | refine Ye ?_ | refine Yf ?_ | refine Yg ?_ | refine Yh ?_ | refine Yi ?_ | refine Yj ?_ | refine Yk ?_ | refine Yl ?_ | refine Ym ?_ | refine Yn ?_ | refine Yo ?_ | refine Yp (h := ?_) | refine Yq ?_ | refine Yr ?_ | refine Ys ?_ | refine Zr hc (hk := ?_) | refine Zd hc (hk := ?_) | (refine Zc (ht := fun hb => ?_) (hf := fun hb => ?_) <;> (try simp at hb)) | fail) | (first | refine Zw hc (hf := by first | exact hP | exact hB) (hk := ?_) | refine Zq hc (hf := by first | exact hP | exact hB) (hk := ?_) | refine Zo hc (hk := ?_) | refine Zu hc (hk := ?_) | refine Ze hc (hk := ?_) | refine Zn hc (hk := ?_) | fail))
      all_goals try contradiction
      (refine run_leaveM [100000] hc (le_end rfl) (by simp; exact Gives.mk) (by simp; exact Gives.mk) (by first | (simp; done) | (simp; omega)) ?_)
      simp
    | true =>
      have hk := hth rfl
      have hks := hTs k
      have hCn := containsS_ok (trnAt T k).2 [35] (by omega)
      generalize Lib.index (trnAt T k).2 [35] = ix at hCn ⊢
      simp only [Bool.and_self, if_true]
      repeat' (first | (first | refine Ya ?_ | refine Yb ?_ | refine Yc ?_ | refine Yd ?_ | refine Ye ?_ | refine Yf ?_ | refine Yg ?_ | refine Yh ?_ | refine Yi ?_ | refine Yj ?_ | refine Yk ?_ | refine Yl ?_ | refine Ym ?_ | refine Yn ?_ | refine Yo ?_ | refine Yp (h := ?_) | refine Yq ?_ | refine Yr ?_ | refine Ys ?_ | refine Zr hc (hk := ?_) | refine Zd hc (hk := ?_) | (refine Zc (ht := fun hb => ?_) (hf := fun hb => ?_) <;> (try simp at hb)) | fail) | (first | refine Zw hc (hf := by first | exact hP | exact hB | exact hCn) (hk := ?_) | refine Zq hc (hf := by first | exact hP | exact hB | exact hCn) (hk := ?_) | refine Zo hc (hk := ?_) | refine Zu hc (hk := ?_) | refine Ze hc (hk := ?_) | refine Zn hc (hk := ?_) | fail))
      all_goals try contradiction
      · rw [if_pos ⟨hb.1, by omega⟩]
        (refine run_leaveM [100000] hc (le_end rfl) (by simp; exact Gives.mk) (by simp; exact Gives.mk) (by first | (simp; done) | (simp; omega)) ?_)
        simp
      · rw [if_neg (fun h => by have := hb h.1; omega)]
        (refine run_leaveM [100000] hc (le_end rfl) (by simp; exact Gives.mk) (by simp; exact Gives.mk) (by first | (simp; done) | (simp; omega)) ?_)
        simp
/-- Links from one on. -/
abbrev lnkFr (L : List Lnk) (k : Nat) : D := .sl (L.length - k) fun i => encL (L[k + i]?.getD .none)
/-- A value with its links turned: what is written, from where on it goes on, was any turned, how many. -/
structure VaS where
  out : Bs
  fr : Nat
  any : Bool
  many : Nat
def valGo (T : List Trn) (v : Bs) (X : List (Nat × Nat)) (L : Nat → Lnk) : Nat → VaS
  | 0 => ⟨[], 0, false, 0⟩
  | j + 1 => if turnB T (L j) = true then ⟨(valGo T v X L j).out ++ cutB v ((valGo T v X L j).fr, (X[j]?.getD (0, 0)).1) ++ turnT T (L j), (X[j]?.getD (0, 0)).2, true, (valGo T v X L j).many + 1⟩ else valGo T v X L j
theorem valGo_in {T : List Trn} (hT : trnE T = 0) {v : Bs} {X : List (Nat × Nat)} (hX : Ord X 0 v.length) {L : Nat → Lnk} (hL : ∀ j, LnkIn (L j)) : ∀ j, j ≤ X.length →
    (valGo T v X L j).out.length ≤ (valGo T v X L j).fr + 4001 * j ∧ (valGo T v X L j).fr ≤ v.length ∧ (valGo T v X L j).many ≤ j ∧ (j < X.length → (valGo T v X L j).fr ≤ (X[j]?.getD (0, 0)).1) ∧ ((valGo T v X L j).any = true → 0 < (valGo T v X L j).many) ∧ (0 < (valGo T v X L j).many → (valGo T v X L j).any = true)
  | 0, _ => ⟨Nat.zero_le _, Nat.zero_le _, Nat.le_refl _, fun _ => Nat.zero_le _, fun h => (by cases h), fun h => absurd h (Nat.lt_irrefl _)⟩
  | j + 1, hj => by
    obtain ⟨h1, h2, h3, h4, h5, h6⟩ := valGo_in hT hX hL j (by omega)
    have h7 := h4 (by omega)
    have h8 := hX.get j (by omega)
    have h9 := fun h => hX.next j h
    have hl := turnT_len hT (hL j)
    unfold valGo
    generalize valGo T v X L j = s at h1 h2 h3 h4 h5 h6 h7 ⊢
    split
    · refine ⟨?_, by simp only; omega, by simp only; omega, fun h => by simp only; have := h9 h; omega, fun _ => by simp only; omega, fun _ => rfl⟩
      simp only [List.length_append, cutB, List.length_drop, List.length_take]
      omega
    · exact ⟨by omega, h2, by omega, fun h => by have := h9 h; omega, h5, h6⟩
theorem pgVal_ok (T : List Trn) (hT : trnE T = 0) (v : Bs) (hv : v.length ≤ 200000) (X : List (Nat × Nat)) (hX : Ord X 0 v.length) (L : List Lnk) (k : Nat) (hk : k + X.length ≤ L.length) (hLl : L.length ≤ 5000) (hL : ∀ x ∈ L, LnkIn x) (n : Nat) (hn : n ≤ 100000000) :
    FnMem Tryz.prog 44 [.bp 100000 0, .d (str v), .d (spSl X), .d (lnkFr L k)] (tur 100000 T n)
      (.d (.tup [str ((valGo T v X (fun j => L[k + j]?.getD .none) X.length).out ++ v.drop (valGo T v X (fun j => L[k + j]?.getD .none) X.length).fr), tru (valGo T v X (fun j => L[k + j]?.getD .none) X.length).any])) (tur 100000 T (n + (valGo T v X (fun j => L[k + j]?.getD .none) X.length).many)) := by
  refine fnMem Tryz.func44 rfl (by kernel_rfl) Tryz.ntmps44 _ rfl (by simp) fun C hc => ?_
  have hI := fun j => lnkIn_get hL (k + j)
  have hin := valGo_in hT hX hI
  have hst : ∀ j, valGo T v X (fun j => L[k + j]?.getD .none) (j + 1) = if turnB T (L[k + j]?.getD .none) = true then ⟨(valGo T v X (fun j => L[k + j]?.getD .none) j).out ++ cutB v ((valGo T v X (fun j => L[k + j]?.getD .none) j).fr, (X[j]?.getD (0, 0)).1) ++ turnT T (L[k + j]?.getD .none), (X[j]?.getD (0, 0)).2, true, (valGo T v X (fun j => L[k + j]?.getD .none) j).many + 1⟩ else valGo T v X (fun j => L[k + j]?.getD .none) j := fun _ => rfl
  generalize hG : valGo T v X (fun j => L[k + j]?.getD .none) = G at hin hst ⊢
  have hG0 : G 0 = ⟨[], 0, false, 0⟩ := by rw [← hG]; rfl
  clear hG
  repeat' (first | (first | refine Ya ?_ | refine Yb ?_ | refine Yc ?_ | refine Yd ?_ | refine Ye ?_ | refine Yf ?_ | refine Yg ?_ | refine Yh ?_ | refine Yi ?_ | refine Yj ?_ | refine Yk ?_ | refine Yl ?_ | refine Ym ?_ | refine Yn ?_ | refine Yo ?_ | refine Yp (h := ?_) | refine Yq ?_ | refine Yr ?_ | refine Ys ?_ | refine Zr hc (hk := ?_) | refine Zd hc (hk := ?_) | (refine Zc (ht := fun hb => ?_) (hf := fun hb => ?_) <;> (try simp at hb)) | fail) | (first | refine Zo hc (hk := ?_) | refine Zu hc (hk := ?_) | refine Ze hc (hk := ?_) | refine Zn hc (hk := ?_) | fail))
  refine ewp_loop (fun j : Nat => ⟨[(0, .bp 100000 0), (1, .d (str v)), (3, .d (lnkFr L k)), (10, .d (str (G j).out)), (11, .d (int (G j).fr)), (12, .d (tru (G j).any)), (17, .d (spSl X)), (18, .d (int X.length)), (19, .d (int j))], tur 100000 T (n + (G j).many)⟩) (fun j => j ≤ X.length) (fun j => X.length - j) 0 (by simp) (run_keep [0, 1, 3, 10, 11, 12, 17, 18, 19] [100000] (by simp [hG0]; exact Gives.mk) (by simp [hG0]; exact Gives.mk)) ?_
  intro j hj
  obtain ⟨g1, g2, g3, g4, g5, g6⟩ := hin j hj
  have hs := hst j
  by_cases hjl : j < X.length
  · have g7 := g4 hjl
    have g8 := hX.get j hjl
    have hTu := turned_ok T hT (L[k + j]?.getD .none) (hI j) (n + (G j).many) (by omega)
    have hl := turnT_len hT (hI j)
    generalize turnB T (L[k + j]?.getD .none) = tb at hTu hs
    generalize turnT T (L[k + j]?.getD .none) = tt at hTu hs hl
    generalize hgj : G j = s at *
    cases tb with
    | false =>
      rw [if_neg (by decide)] at hs
      simp only [Bool.false_eq_true, if_false] at hTu
      repeat' (first | (first | refine Ya ?_ | refine Yb ?_ | refine Yc ?_ | refine Yd ?_ | refine Ye ?_ | refine Yf ?_ | refine Yg ?_ | refine Yh ?_ | refine Yi ?_ | refine Yj ?_ | refine Yk ?_ | refine Yl ?_ | refine Ym ?_ | refine Yn ?_ | refine Yo ?_ | refine Yp (h := ?_) | refine Yq ?_ | refine Yr ?_ | refine Ys ?_ | refine Zr hc (hk := ?_) | refine Zd hc (hk := ?_) | (refine Zc (ht := fun hb => ?_) (hf := fun hb => ?_) <;> (try simp at hb)) | fail) | (first | refine Zo hc (hk := ?_) | refine Zu hc (hk := ?_) | refine Ze hc (hk := ?_) | refine Zn hc (hk := ?_) | fail) | (first | refine run_callM ([(100000, 100000)]) (hTu) hc (by simp; exact Gives.mk) (by simp; exact Gives.mk) (by simp; exact Gives.mk) (by simp; exact Gives.mk) (by simp; exact Gives.mk) rfl (by simp; exact Gives.mk) (by simp; exact Gives.mk) rfl (by simp) (by simp) (by simp; exact Gives.mk) (by simp; exact Gives.mk) ?_ | fail))
      all_goals try contradiction
      all_goals try (exfalso; omega)
      exact ⟨j + 1, by omega, by omega, run_back [0, 1, 3, 10, 11, 12, 17, 18, 19] [100000] (by simp; exact Gives.mk) (by simp; exact Gives.mk) (by simp [hs])⟩
    | true =>
      rw [if_pos rfl] at hs
      simp only [if_true] at hTu
      repeat' (first | (first | refine Ya ?_ | refine Yb ?_ | refine Yc ?_ | refine Yd ?_ | refine Ye ?_ | refine Yf ?_ | refine Yg ?_ | refine Yh ?_ | refine Yi ?_ | refine Yj ?_ | refine Yk ?_ | refine Yl ?_ | refine Ym ?_ | refine Yn ?_ | refine Yo ?_ | refine Yp (h := ?_) | refine Yq ?_ | refine Yr ?_ | refine Ys ?_ | refine Zr hc (hk := ?_) | refine Zd hc (hk := ?_) | (refine Zc (ht := fun hb => ?_) (hf := fun hb => ?_) <;> (try simp at hb)) | fail) | (first | refine Zo hc (hk := ?_) | refine Zu hc (hk := ?_) | refine Ze hc (hk := ?_) | refine Zn hc (hk := ?_) | fail) | (first | refine run_callM ([(100000, 100000)]) (hTu) hc (by simp; exact Gives.mk) (by simp; exact Gives.mk) (by simp; exact Gives.mk) (by simp; exact Gives.mk) (by simp; exact Gives.mk) rfl (by simp; exact Gives.mk) (by simp; exact Gives.mk) rfl (by simp) (by simp) (by simp; exact Gives.mk) (by simp; exact Gives.mk) ?_ | fail))
      all_goals try contradiction
      all_goals try (exfalso; omega)
      exact ⟨j + 1, by omega, by omega, run_back [0, 1, 3, 10, 11, 12, 17, 18, 19] [100000] (by simp; exact Gives.mk) (by simp; exact Gives.mk) (by first | (simp [hs, cutB, Nat.add_assoc]; done) | (simp [hs, cutB, Nat.add_assoc]; omega))⟩
  · obtain rfl : j = X.length := by omega
    repeat' (first | (first | refine Ya ?_ | refine Yb ?_ | refine Yc ?_ | refine Yd ?_ | refine Ye ?_ | refine Yf ?_ | refine Yg ?_ | refine Yh ?_ | refine Yi ?_ | refine Yj ?_ | refine Yk ?_ | refine Yl ?_ | refine Ym ?_ | refine Yn ?_ | refine Yo ?_ | refine Yp (h := ?_) | refine Yq ?_ | refine Yr ?_ | refine Ys ?_ | refine Zr hc (hk := ?_) | refine Zd hc (hk := ?_) | (refine Zc (ht := fun hb => ?_) (hf := fun hb => ?_) <;> (try simp at hb)) | fail) | (first | refine Zo hc (hk := ?_) | refine Zu hc (hk := ?_) | refine Ze hc (hk := ?_) | refine Zn hc (hk := ?_) | fail))
    all_goals try contradiction
    all_goals try (exfalso; omega)
    (refine run_leaveM [100000] hc (le_end rfl) (by simp; exact Gives.mk) (by simp; exact Gives.mk) (by first | (simp; done) | (simp; omega)) ?_)
    simp
/-! What is written. -/
def badV (s : Bs) (j : Nat) : Bool := if j < s.length then (if inValB (s[j]?.getD 0) = false then true else badV s (j + 1)) else false
termination_by s.length - j
def writR (p : Bs) (fr : Nat) (s : Bs) : Bs :=
  if (p[fr - 1]?.getD 0).toNat = 34 ∨ (p[fr - 1]?.getD 0).toNat = 39 then safe s else if badV (safe s) 0 = true ∨ [47].isSuffixOf (safe s) = true then 34 :: (safe s ++ [34]) else safe s
theorem writR_len (p : Bs) (fr : Nat) (s : Bs) : (writR p fr s).length ≤ 6 * s.length + 2 := by
  have := safe_len s
  unfold writR
  split
  · omega
  · split
    · simp only [List.length_cons, List.length_append, List.length_nil]; omega
    · omega
theorem written_ok (p : Bs) (fr til : Nat) (h0 : 0 < fr) (hf : fr ≤ p.length) (hp : p.length ≤ 200000) (s : Bs) (hs : s.length ≤ 1000000000) : FnOk Tryz.prog 45 [str p, .agg [int fr, int til], str s] (str (writR p fr s)) := by
  refine fnOk Tryz.func45 rfl (by kernel_rfl) Tryz.ntmps45 _ rfl (by simp) fun C hc => ?_
  have hS := safeP_ok s hs
  have hsl := safe_len s
  have e : ((fr : Int) - 1).toNat = fr - 1 := by omega
  unfold writR
  generalize safe s = t at hS hsl ⊢
  by_cases hq : (p[fr - 1]?.getD 0).toNat = 34 ∨ (p[fr - 1]?.getD 0).toNat = 39
  · rw [if_pos hq]
    repeat' (first | (first | refine Ya ?_ | refine Yb ?_ | refine Yc ?_ | refine Yd ?_ | refine Ye ?_ | refine Yf ?_ | refine Yg ?_ | refine Yh ?_ | refine Yi ?_ | refine Yj ?_ | refine Yk ?_ | refine Yl ?_ | refine Ym ?_ | refine Yn ?_ | refine Yo ?_ | refine Yp (h := ?_) | refine Yq ?_ | refine Yr ?_ | refine Ys ?_ | refine Zr hc (hk := ?_) | refine Zd hc (hk := ?_) | (refine Zc (ht := fun hb => ?_) (hf := fun hb => ?_) <;> (try simp at hb)) | fail) | (first | refine Zw hc (hf := by exact hS) (hk := ?_) | refine Zq hc (hf := by exact hS) (hk := ?_) | refine Zo hc (hk := ?_) | refine Zu hc (hk := ?_) | refine Ze hc (hk := ?_) | refine Zn hc (hk := ?_) | fail))
    all_goals try contradiction
    all_goals try (exfalso; omega)
    (refine Zl hc (hr := ?_))
    simp
  rw [if_neg hq]
  repeat' (first | (first | refine Ya ?_ | refine Yb ?_ | refine Yc ?_ | refine Yd ?_ | refine Ye ?_ | refine Yf ?_ | refine Yg ?_ | refine Yh ?_ | refine Yi ?_ | refine Yj ?_ | refine Yk ?_ | refine Yl ?_ | refine Ym ?_ | refine Yn ?_ | refine Yo ?_ | refine Yp (h := ?_) | refine Yq ?_ | refine Yr ?_ | refine Ys ?_ | refine Zr hc (hk := ?_) | refine Zd hc (hk := ?_) | (refine Zc (ht := fun hb => ?_) (hf := fun hb => ?_) <;> (try simp at hb)) | fail) | (first | refine Zw hc (hf := by exact hS) (hk := ?_) | refine Zq hc (hf := by exact hS) (hk := ?_) | refine Zo hc (hk := ?_) | refine Zu hc (hk := ?_) | refine Ze hc (hk := ?_) | refine Zn hc (hk := ?_) | fail))
  all_goals try contradiction
  all_goals try (exfalso; omega)
  refine ewp_loop (fun j : Nat => ⟨[(7, .d (str t)), (25, .d (int t.length)), (26, .d (int j))], []⟩) (fun j => j ≤ t.length ∧ badV t 0 = badV t j) (fun j => t.length - j) 0 (by simp) (run_keep [7, 25, 26] [] (by simp; exact Gives.mk) (by simp; exact Gives.mk)) ?_
  rintro j ⟨hj, hA⟩
  have hst : badV t j = if j < t.length then (if inValB (t[j]?.getD 0) = false then true else badV t (j + 1)) else false := by rw [badV]
  by_cases hjl : j < t.length
  · have hI := inValue_ok (t[j]?.getD 0)
    rw [if_pos hjl] at hst
    generalize inValB (t[j]?.getD 0) = b at hI hst
    cases b with
    | false =>
      rw [if_pos rfl] at hst
      rw [if_pos (.inl (hA.trans hst))]
      repeat' (first | (first | refine Ya ?_ | refine Yb ?_ | refine Yc ?_ | refine Yd ?_ | refine Ye ?_ | refine Yf ?_ | refine Yg ?_ | refine Yh ?_ | refine Yi ?_ | refine Yj ?_ | refine Yk ?_ | refine Yl ?_ | refine Ym ?_ | refine Yn ?_ | refine Yo ?_ | refine Yp (h := ?_) | refine Yq ?_ | refine Yr ?_ | refine Ys ?_ | refine Zr hc (hk := ?_) | refine Zd hc (hk := ?_) | (refine Zc (ht := fun hb => ?_) (hf := fun hb => ?_) <;> (try simp at hb)) | fail) | (first | refine Zw hc (hf := by exact hI) (hk := ?_) | refine Zq hc (hf := by exact hI) (hk := ?_) | refine Zo hc (hk := ?_) | refine Zu hc (hk := ?_) | refine Ze hc (hk := ?_) | refine Zn hc (hk := ?_) | fail))
      all_goals try contradiction
      all_goals try (exfalso; omega)
      (refine Zl hc (hr := ?_))
      simp
    | true =>
      rw [if_neg (by decide)] at hst
      repeat' (first | (first | refine Ya ?_ | refine Yb ?_ | refine Yc ?_ | refine Yd ?_ | refine Ye ?_ | refine Yf ?_ | refine Yg ?_ | refine Yh ?_ | refine Yi ?_ | refine Yj ?_ | refine Yk ?_ | refine Yl ?_ | refine Ym ?_ | refine Yn ?_ | refine Yo ?_ | refine Yp (h := ?_) | refine Yq ?_ | refine Yr ?_ | refine Ys ?_ | refine Zr hc (hk := ?_) | refine Zd hc (hk := ?_) | (refine Zc (ht := fun hb => ?_) (hf := fun hb => ?_) <;> (try simp at hb)) | fail) | (first | refine Zw hc (hf := by exact hI) (hk := ?_) | refine Zq hc (hf := by exact hI) (hk := ?_) | refine Zo hc (hk := ?_) | refine Zu hc (hk := ?_) | refine Ze hc (hk := ?_) | refine Zn hc (hk := ?_) | fail))
      all_goals try contradiction
      all_goals try (exfalso; omega)
      exact ⟨j + 1, ⟨by omega, hA.trans hst⟩, by omega, run_back [7, 25, 26] [] (by simp; exact Gives.mk) (by simp; exact Gives.mk) (by simp)⟩
  · rw [if_neg hjl] at hst
    have hH := hasSuffix_ok t [47] (by omega)
    have hb0 : badV t 0 = false := hA.trans hst
    generalize [47].isSuffixOf t = u at hH ⊢
    rw [hb0]
    cases u with
    | false =>
      rw [if_neg (by decide)]
      repeat' (first | (first | refine Ya ?_ | refine Yb ?_ | refine Yc ?_ | refine Yd ?_ | refine Ye ?_ | refine Yf ?_ | refine Yg ?_ | refine Yh ?_ | refine Yi ?_ | refine Yj ?_ | refine Yk ?_ | refine Yl ?_ | refine Ym ?_ | refine Yn ?_ | refine Yo ?_ | refine Yp (h := ?_) | refine Yq ?_ | refine Yr ?_ | refine Ys ?_ | refine Zr hc (hk := ?_) | refine Zd hc (hk := ?_) | (refine Zc (ht := fun hb => ?_) (hf := fun hb => ?_) <;> (try simp at hb)) | fail) | (first | refine Zw hc (hf := by exact hH) (hk := ?_) | refine Zq hc (hf := by exact hH) (hk := ?_) | refine Zo hc (hk := ?_) | refine Zu hc (hk := ?_) | refine Ze hc (hk := ?_) | refine Zn hc (hk := ?_) | fail))
      all_goals try contradiction
      all_goals try (exfalso; omega)
      (refine Zl hc (hr := ?_))
      simp
    | true =>
      rw [if_pos (by decide)]
      repeat' (first | (first | refine Ya ?_ | refine Yb ?_ | refine Yc ?_ | refine Yd ?_ | refine Ye ?_ | refine Yf ?_ | refine Yg ?_ | refine Yh ?_ | refine Yi ?_ | refine Yj ?_ | refine Yk ?_ | refine Yl ?_ | refine Ym ?_ | refine Yn ?_ | refine Yo ?_ | refine Yp (h := ?_) | refine Yq ?_ | refine Yr ?_ | refine Ys ?_ | refine Zr hc (hk := ?_) | refine Zd hc (hk := ?_) | (refine Zc (ht := fun hb => ?_) (hf := fun hb => ?_) <;> (try simp at hb)) | fail) | (first | refine Zw hc (hf := by exact hH) (hk := ?_) | refine Zq hc (hf := by exact hH) (hk := ?_) | refine Zo hc (hk := ?_) | refine Zu hc (hk := ?_) | refine Ze hc (hk := ?_) | refine Zn hc (hk := ?_) | fail))
      all_goals try contradiction
      all_goals try (exfalso; omega)
      (refine Zl hc (hr := ?_))
      simp
/-! Edits. -/
structure Edt where
  fr : Nat
  til : Nat
  new : Bs
abbrev Edt.none : Edt := ⟨0, 0, []⟩
abbrev edtC (x : Edt) : List D := [int x.fr, int x.til, str x.new]
abbrev edtSl (E : List Edt) : D := .sl E.length fun i => edtC (E[i]?.getD .none)
def appGo (p : Bs) (E : List Edt) : Nat → Bs × Nat
  | 0 => ([], 0)
  | j + 1 => ((appGo p E j).1 ++ cutB p ((appGo p E j).2, (E[j]?.getD .none).fr) ++ (E[j]?.getD .none).new, (E[j]?.getD .none).til)
def appR (p : Bs) (E : List Edt) : Bs := (appGo p E E.length).1 ++ p.drop (appGo p E E.length).2
def edOrd (E : List Edt) (a b : Nat) : Prop := Ord (E.map fun x => (x.fr, x.til)) a b
theorem edOrd_get {E : List Edt} {a b : Nat} (h : edOrd E a b) (i : Nat) (hi : i < E.length) : a ≤ (E[i]?.getD Edt.none).fr ∧ (E[i]?.getD Edt.none).fr ≤ (E[i]?.getD Edt.none).til ∧ (E[i]?.getD Edt.none).til ≤ b := by
  have := Ord.get h i (by simpa using hi)
  rw [List.getElem?_map, List.getElem?_eq_getElem hi] at this
  rw [List.getElem?_eq_getElem hi]
  exact this
theorem edOrd_next {E : List Edt} {a b : Nat} (h : edOrd E a b) (i : Nat) (hi : i + 1 < E.length) : (E[i]?.getD Edt.none).til ≤ (E[i + 1]?.getD Edt.none).fr := by
  have := Ord.next h i (by simpa using hi)
  rw [List.getElem?_map, List.getElem?_map, List.getElem?_eq_getElem hi, List.getElem?_eq_getElem (by omega)] at this
  rw [List.getElem?_eq_getElem hi, List.getElem?_eq_getElem (by omega)]
  exact this
theorem appGo_in {p : Bs} {E : List Edt} (hE : edOrd E 0 p.length) (hn : ∀ i : Nat, (E[i]?.getD Edt.none).new.length ≤ 200000000) : ∀ j, j ≤ E.length →
    (appGo p E j).1.length ≤ (appGo p E j).2 + 200000000 * j ∧ (appGo p E j).2 ≤ p.length ∧ (j < E.length → (appGo p E j).2 ≤ (E[j]?.getD Edt.none).fr)
  | 0, _ => ⟨Nat.zero_le _, Nat.zero_le _, fun _ => Nat.zero_le _⟩
  | j + 1, hj => by
    obtain ⟨h1, h2, h3⟩ := appGo_in hE hn j (by omega)
    have h4 := h3 (by omega)
    have h5 := edOrd_get hE j (by omega)
    have h6 := fun h => edOrd_next hE j h
    have h7 := hn j
    unfold appGo
    refine ⟨?_, by simp only; omega, fun h => by simp only; exact h6 h⟩
    simp only [List.length_append, cutB, List.length_drop, List.length_take]
    omega
theorem app_take {α : Type} (A B D : List α) (k : Nat) (h : k = A.length + B.length) : A ++ (B ++ D) = List.take k (A ++ B) ++ D := by
  rw [List.take_of_length_le (by rw [List.length_append]; omega), List.append_assoc]
theorem apply_ok (p : Bs) (E : List Edt) (hp : p.length ≤ 200000) (hl : E.length ≤ 5000) (hE : edOrd E 0 p.length) (hn : ∀ i : Nat, (E[i]?.getD Edt.none).new.length ≤ 200000000) :
    FnOk Tryz.prog 19 [str p, edtSl E] (if 200000 < (appR p E).length then .tup [nilSl, int 2] else .tup [byS (appR p E), int 0]) := by
  refine fnOk Tryz.func19 rfl (by kernel_rfl) Tryz.ntmps19 _ rfl (by simp) fun C hc => ?_
  have hin := appGo_in hE hn
  have hst : ∀ j, appGo p E (j + 1) = ((appGo p E j).1 ++ cutB p ((appGo p E j).2, (E[j]?.getD .none).fr) ++ (E[j]?.getD .none).new, (E[j]?.getD .none).til) := fun _ => rfl
  unfold appR
  generalize hG : appGo p E = G at hin hst ⊢
  have hG0 : G 0 = ([], 0) := by rw [← hG]; rfl
  clear hG
  repeat' (first | (first | refine Ya ?_ | refine Yb ?_ | refine Yc ?_ | refine Yd ?_ | refine Ye ?_ | refine Yf ?_ | refine Yg ?_ | refine Yh ?_ | refine Yi ?_ | refine Yj ?_ | refine Yk ?_ | refine Yl ?_ | refine Ym ?_ | refine Yn ?_ | refine Yo ?_ | refine Yp (h := ?_) | refine Yq ?_ | refine Yr ?_ | refine Ys ?_ | refine Zr hc (hk := ?_) | refine Zd hc (hk := ?_) | (refine Zc (ht := fun hb => ?_) (hf := fun hb => ?_) <;> (try simp at hb)) | fail) | (first | refine Zo hc (hk := ?_) | refine Zu hc (hk := ?_) | refine Ze hc (hk := ?_) | refine Zn hc (hk := ?_) | fail))
  refine ewp_loop (fun j : Nat => ⟨[(0, .d (str p)), (6, .os 40000 (G j).1.length), (7, .d (int (G j).2)), (10, .d (edtSl E)), (11, .d (int E.length)), (12, .d (int j))], [(40000, .own 5 1 (true, [.lit (.int .u8 0)]) ((G j).1.map byteRow))]⟩) (fun j => j ≤ E.length) (fun j => E.length - j) 0 (by simp) (run_keepB [(6, none, 40000, 5, [.lit (.int .u8 0)])] [0, 6, 7, 10, 11, 12] [40000] (by simp; exact Gives.mk) (by simp [hG0]; exact Gives.mk) (by simp [hG0]; exact Gives.mk)) ?_
  intro j hj
  obtain ⟨g1, g2, g3⟩ := hin j hj
  have hs := hst j
  by_cases hjl : j < E.length
  · have g4 := g3 hjl
    have g5 := edOrd_get hE j hjl
    have g6 := hn j
    generalize hgj : G j = s at *
    obtain ⟨s1, s2⟩ := s
    simp only at g1 g2 g4 hs
    repeat' (first | (first | refine Ya ?_ | refine Yb ?_ | refine Yc ?_ | refine Yd ?_ | refine Ye ?_ | refine Yf ?_ | refine Yg ?_ | refine Yh ?_ | refine Yi ?_ | refine Yj ?_ | refine Yk ?_ | refine Yl ?_ | refine Ym ?_ | refine Yn ?_ | refine Yo ?_ | refine Yp (h := ?_) | refine Yq ?_ | refine Yr ?_ | refine Ys ?_ | refine Zr hc (hk := ?_) | refine Zd hc (hk := ?_) | (refine Zc (ht := fun hb => ?_) (hf := fun hb => ?_) <;> (try simp at hb)) | fail) | (first | refine Zo hc (hk := ?_) | refine Zu hc (hk := ?_) | refine Ze hc (hk := ?_) | fail))
    all_goals try contradiction
    all_goals try (exfalso; omega)
    refine ewp_le (run_keep [0, 6, 7, 9, 10, 11, 12] [9, 40000] (by simp; exact Gives.mk) (by simp; exact Gives.mk)) ?_
    (apply Xd 12 hc; (focus (refine Xm 0 hc (hk := ?_); refine Xm 1 hc (hk := ?_); refine Xm 2 hc (hk := ?_); refine Xp 3 hc (hk := ?_); refine Xp 4 hc (hk := ?_); refine Xp 8 hc (hk := ?_); refine run_anyR 5 [5, 6, 7, 10, 11] hc rfl (by kernel_rfl) rfl (by simp; exact Gives.mk) (by first | exact True.intro | omega | (simp; done) | (simp; omega) | (simp at *; omega)) (by simp) (by simp; exact Gives.mk) ?_; refine Xa [6, 9] (hx := ?_); refine ⟨?_, ?_⟩; (focus (refine Xw hc (hk := ?q60); refine Xa [7, 9] (hx := ?nq60); refine ⟨?_, ?_⟩; (focus (refine Xw hc (hk := ?q61); refine run_anyR 9 [9, 10, 11] hc rfl (by kernel_rfl) rfl (by simp; exact Gives.mk) (by first | exact True.intro | omega | (simp; done) | (simp; omega) | (simp at *; omega)) (by simp) (by simp; exact Gives.mk) ?nq61; refine Xa [10] (hx := ?_); (focus (refine Xw hc (hk := ?q62); refine Xm 11 hc (hk := ?nq62); refine Xz (hk := ?_); exact Xk [0, 6, 7, 9, 10, 11, 12] [9, 40000])))); (focus (refine Xw hc (hk := ?q63); refine Xa [7] (hx := ?nq63); (focus (refine Xw hc (hk := ?q64); refine Xa [10] (hx := ?nq64); (focus (refine Xw hc (hk := ?_); exact Xq ?q62)))))))); (focus (refine Xw hc (hk := ?q65); refine Xa [6] (hx := ?nq65); (focus (refine Xw hc (hk := ?_); exact Xq ?q63)))))))
    repeat' (first | (first | refine Ya ?_ | refine Yb ?_ | refine Yc ?_ | refine Yd ?_ | refine Ye ?_ | refine Yf ?_ | refine Yg ?_ | refine Yh ?_ | refine Yi ?_ | refine Yj ?_ | refine Yk ?_ | refine Yl ?_ | refine Ym ?_ | refine Yn ?_ | refine Yo ?_ | refine Yp (h := ?_) | refine Yq ?_ | refine Yr ?_ | refine Ys ?_ | refine Zr hc (hk := ?_) | refine Zd hc (hk := ?_) | (refine Zc (ht := fun hb => ?_) (hf := fun hb => ?_) <;> (try simp at hb)) | fail) | (first | refine Zo hc (hk := ?_) | refine Zu hc (hk := ?_) | refine Ze hc (hk := ?_) | fail))
    exact ⟨j + 1, by omega, by omega, run_back [0, 6, 7, 10, 11, 12] [40000] (by simp; exact Gives.mk) (by simp; exact Gives.mk) (by
      simp [hs, cutB]
      exact ⟨by omega, app_take _ _ _ _ (by simp only [List.length_map, List.length_drop, List.length_take])⟩)⟩
  · obtain rfl : j = E.length := by omega
    generalize hgj : G E.length = s at *
    obtain ⟨s1, s2⟩ := s
    simp only at g1 g2 ⊢
    repeat' (first | (first | refine Ya ?_ | refine Yb ?_ | refine Yc ?_ | refine Yd ?_ | refine Ye ?_ | refine Yf ?_ | refine Yg ?_ | refine Yh ?_ | refine Yi ?_ | refine Yj ?_ | refine Yk ?_ | refine Yl ?_ | refine Ym ?_ | refine Yn ?_ | refine Yo ?_ | refine Yp (h := ?_) | refine Yq ?_ | refine Yr ?_ | refine Ys ?_ | refine Zr hc (hk := ?_) | refine Zd hc (hk := ?_) | (refine Zc (ht := fun hb => ?_) (hf := fun hb => ?_) <;> (try simp at hb)) | fail) | (first | refine Zo hc (hk := ?_) | refine Zu hc (hk := ?_) | refine Ze hc (hk := ?_) | fail))
    all_goals try contradiction
    all_goals try (exfalso; omega)
    · rw [if_pos (by simp only [List.length_append, List.length_drop]; omega)]
      (refine Zl hc (hr := ?_))
      simp
    · rw [if_neg (by simp only [List.length_append, List.length_drop]; omega)]
      (refine Zl hc (hr := ?_))
      simp
      funext i
      rw [← List.map_drop, ← List.map_append, List.getElem?_map]
      cases (s1 ++ List.drop s2 p)[i]? <;> rfl
end Go.Proofs.YtjbabjfmcganpaaGreatDoor
