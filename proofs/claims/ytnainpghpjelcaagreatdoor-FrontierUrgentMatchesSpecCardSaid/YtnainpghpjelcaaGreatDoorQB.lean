/-
  CHAPTER 1's REFERENCE: schemes, rows of paths, the text and the check of an address. (WITH run_drawN.)
-/
import Derived.Test.YtnainpghpjelcaaGreatDoorR1D
import Derived.Test.YtnainpghpjelcaaGreatDoorAdH
set_option linter.unusedSimpArgs false
set_option linter.unusedVariables false
namespace Go.Proofs.YtnainpghpjelcaaGreatDoor
open Go.Lw Go.RowKit
set_option maxRecDepth 100000
set_option maxHeartbeats 1000000

theorem rowAt_hexW {w s : Bs} {j : Nat} (hw : ∀ c, w.contains c = true → isHexB c = false) (h : j < s.length) (hx : isHexB (s[j]?.getD 0) = true) : rowAt w s j = rowAt w s (j + 1) := by
  obtain ⟨h1, h2⟩ := hex_row hx
  rw [rowAt_step w s j h, if_neg (fun e => by have := hw _ e; rw [hx] at this; cases this), if_neg (by rw [h1]; decide), if_neg h2]
/-- The first place at which a text is no row without a byte. -/
def rbadW (w s : Bs) : Int := if rowE w s = (s.length, true) then -1 else ((rowE w s).1 : Int)
theorem rbadW_neg (w s : Bs) : rbadW w s < 0 ↔ isRow w s := by
  unfold rbadW isRow
  split
  · rename_i h; simp [h]
  · rename_i h; constructor
    · intro h2; omega
    · intro h2; exact absurd h2 h
theorem qRowBad63_ok (s : Bs) (hm : s.length ≤ 4611686018427387904) : FnOk Tryz.prog 221 [str s, u8 63] (int (rbadW [63] s)) := by
  refine fnOk Tryz.func221 rfl (by kernel_rfl) Tryz.ntmps221 _ rfl (by simp) fun C hc => ?_
  have e0 : rbadW [63] s = if rowAt [63] s 0 = (s.length, true) then -1 else ((rowAt [63] s 0).1 : Int) := by rw [rowAt_zero]; rfl
  rw [e0]
  have hw : ∀ c, ([63] : Bs).contains c = true → isHexB c = false := by
    intro c hc
    have : c = 63 := by simpa using hc
    rw [this]; decide
  repeat' (first | (first | refine Ya ?_ | refine Yb ?_ | refine Yc ?_ | refine Yd ?_ | refine Ye ?_ | refine Yf ?_ | refine Yg ?_ | refine Yh ?_ | refine Yi ?_ | refine Yj ?_ | refine Yk ?_ | refine Yl ?_ | refine Ym ?_ | refine Yn ?_ | refine Yo ?_ | refine Yp (h := ?_) | refine Yq ?_ | refine Yr ?_ | refine Ys ?_ | refine Zr hc (hk := ?_) | refine Zd hc (hk := ?_) | (refine Zc (ht := fun hb => ?_) (hf := fun hb => ?_) <;> (try simp at hb)) | fail) | (first | refine Zo hc (hk := ?_) | refine Zu hc (hk := ?_) | refine Ze hc (hk := ?_) | refine Zn hc (hk := ?_) | fail))
  refine ewp_loop (fun j : Nat => ⟨[(0, .d (str s)), (1, .d (u8 63)), (5, .d (int j))], []⟩) (fun j => j ≤ s.length ∧ rowAt [63] s 0 = rowAt [63] s j) (fun j => s.length - j) 0 (by simp) (run_keep [0, 1, 5] [] (by simp; exact Gives.mk) (by simp; exact Gives.mk)) ?_
  rintro j ⟨h1, h2⟩
  rw [h2]
  have hst := fun h => rowAt_step [63] s j h
  have h37 := toNat_sign (s[j]?.getD 0) 37 (by omega)
  have h63 := toNat_sign (s[j]?.getD 0) 63 (by omega)
  simp only [show UInt8.ofNat 37 = (37 : UInt8) from rfl] at h37
  simp only [show UInt8.ofNat 63 = (63 : UInt8) from rfl] at h63
  have hcon : ([63] : Bs).contains (s[j]?.getD 0) = true ↔ s[j]?.getD 0 = 63 := by simp
  repeat' (first | (first | refine Ya ?_ | refine Yb ?_ | refine Yc ?_ | refine Yd ?_ | refine Ye ?_ | refine Yf ?_ | refine Yg ?_ | refine Yh ?_ | refine Yi ?_ | refine Yj ?_ | refine Yk ?_ | refine Yl ?_ | refine Ym ?_ | refine Yn ?_ | refine Yo ?_ | refine Yp (h := ?_) | refine Yq ?_ | refine Yr ?_ | refine Ys ?_ | refine Zr hc (hk := ?_) | refine Zd hc (hk := ?_) | (refine Zc (ht := fun hb => ?_) (hf := fun hb => ?_) <;> (try simp at hb)) | fail) | (first | refine Zw hc (hf := by first | exact qRowByte_ok _ | exact qHex_ok _) (hk := ?_) | refine Zq hc (hf := by first | exact qRowByte_ok _ | exact qHex_ok _) (hk := ?_) | refine Zo hc (hk := ?_) | refine Zu hc (hk := ?_) | refine Ze hc (hk := ?_) | refine Zn hc (hk := ?_) | fail))
  · have e : (rowAt [63] s j).1 = j := by
      rw [hst (by omega)]
      by_cases hq : ([63] : Bs).contains (s[j]?.getD 0) = true
      · rw [if_pos hq]
      · rw [if_neg hq]
        have hbad : badB (s[j]?.getD 0) = true := by
          rcases hb with h | h
          · exact h
          · exfalso; exact hq (hcon.2 (h63.1 (by omega)))
        rw [if_pos hbad]
    rw [if_neg (fun h => by rw [h] at e; simp at e; omega), e]
    (refine Zl hc (hr := ?_))
    simp
  · rename_i hlt hg
    have hnq : ¬ ([63] : Bs).contains (s[j]?.getD 0) = true := fun h => hg.2 (by have := h63.2 (hcon.1 h); omega)
    have e : rowAt [63] s j = (j, false) := by
      rw [hst (by omega), if_neg hnq, if_neg (by rw [hg.1]; decide), if_pos (h37.1 (by omega)), if_neg (fun e => by
        rcases hb.2 with (h | h) | h
        · omega
        · rw [e.2.1] at h; cases h
        · rw [e.2.2] at h; cases h)]
    rw [e, if_neg (by simp)]
    (refine Zl hc (hr := ?_))
    simp
  · rename_i hlt hg
    have hnq : ¬ ([63] : Bs).contains (s[j]?.getD 0) = true := fun h => hg.2 (by have := h63.2 (hcon.1 h); omega)
    refine ⟨j + 1, ⟨by omega, ?_⟩, by omega, run_back [0, 1, 5] [] (by simp; exact Gives.mk) (by simp; exact Gives.mk) (by simp)⟩
    rw [hst (by omega), if_neg hnq, if_neg (by rw [hg.1]; decide)]
    by_cases h : s[j]?.getD 0 = 37
    · have h4 := hb (by have := h37.2 h; omega)
      rw [if_pos h, if_pos ⟨by omega, h4.1.2, h4.2⟩, rowAt_hexW hw (by omega) h4.1.2, rowAt_hexW hw (by omega) h4.2]
    · rw [if_neg h]
  · rw [rowAt_end [63] s j (by omega), if_pos (by have : j = s.length := by omega
                                                  rw [this])]
    (refine Zl hc (hr := ?_))
    simp
theorem qIsScheme_ok (s : Bs) (hm : s.length ≤ 9223372036854775807) : FnOk Tryz.prog 177 [str s] (tru (decide (okS s))) := by
  refine fnOk Tryz.func177 rfl (by kernel_rfl) Tryz.ntmps177 _ rfl (by simp) fun C hc => ?_
  have hS := qSmall_ok s hm
  have hd : okS s ↔ (small s = [104, 116, 116, 112] ∨ small s = [104, 116, 116, 112, 115]) := Iff.rfl
  repeat' (first | (first | refine Ya ?_ | refine Yb ?_ | refine Yc ?_ | refine Yd ?_ | refine Ye ?_ | refine Yf ?_ | refine Yg ?_ | refine Yh ?_ | refine Yi ?_ | refine Yj ?_ | refine Yk ?_ | refine Yl ?_ | refine Ym ?_ | refine Yn ?_ | refine Yo ?_ | refine Yp (h := ?_) | refine Yq ?_ | refine Yr ?_ | refine Ys ?_ | refine Zr hc (hk := ?_) | refine Zd hc (hk := ?_) | (refine Zc (ht := fun hb => ?_) (hf := fun hb => ?_) <;> (try simp at hb)) | fail) | (first | refine Zw hc (hf := by exact hS) (hk := ?_) | refine Zq hc (hf := by exact hS) (hk := ?_) | refine Zo hc (hk := ?_) | refine Zu hc (hk := ?_) | refine Ze hc (hk := ?_) | refine Zn hc (hk := ?_) | fail))
  all_goals (refine Zl hc (hr := ?_))
  refine res_bool ?_
  rw [Bool.eq_iff_iff]
  simp [hd]
theorem qIsRow_ok (s : Bs) (hm : s.length ≤ 4611686018427387904) : FnOk Tryz.prog 181 [str s] (tru (decide (isRow [] s))) := by
  refine fnOk Tryz.func181 rfl (by kernel_rfl) Tryz.ntmps181 _ rfl (by simp) fun C hc => ?_
  have hB := qRowBad_ok s hm
  have hr : rbad s < 0 ↔ isRow [] s := by
    unfold rbad isRow
    constructor
    · intro h
      split at h
      · rename_i h2; exact Prod.ext (rowE_full s h2) h2
      · omega
    · intro h; rw [h]; simp
  repeat' (first | (first | refine Ya ?_ | refine Yb ?_ | refine Yc ?_ | refine Yd ?_ | refine Ye ?_ | refine Yf ?_ | refine Yg ?_ | refine Yh ?_ | refine Yi ?_ | refine Yj ?_ | refine Yk ?_ | refine Yl ?_ | refine Ym ?_ | refine Yn ?_ | refine Yo ?_ | refine Yp (h := ?_) | refine Yq ?_ | refine Yr ?_ | refine Ys ?_ | refine Zr hc (hk := ?_) | refine Zd hc (hk := ?_) | (refine Zc (ht := fun hb => ?_) (hf := fun hb => ?_) <;> (try simp at hb)) | fail) | (first | refine Zw hc (hf := by exact hB) (hk := ?_) | refine Zq hc (hf := by exact hB) (hk := ?_) | refine Zo hc (hk := ?_) | refine Zu hc (hk := ?_) | refine Ze hc (hk := ?_) | refine Zn hc (hk := ?_) | fail))
  all_goals (refine Zl hc (hr := ?_))
  all_goals simp [hr]
def pathB (s : Bs) : Prop := s = [] ∨ (s[0]?.getD 0).toNat = 47 ∧ isRow [63] s
instance (s : Bs) : Decidable (pathB s) := by unfold pathB; infer_instance
theorem qIsPath_ok (s : Bs) (hm : s.length ≤ 4611686018427387904) : FnOk Tryz.prog 180 [str s] (tru (decide (pathB s))) := by
  refine fnOk Tryz.func180 rfl (by kernel_rfl) Tryz.ntmps180 _ rfl (by simp) fun C hc => ?_
  have hB := qRowBad63_ok s hm
  have hr := rbadW_neg [63] s
  have hpl : ¬ s = [] → 0 < s.length := fun h => List.length_pos_iff.2 h
  repeat' (first | (first | refine Ya ?_ | refine Yb ?_ | refine Yc ?_ | refine Yd ?_ | refine Ye ?_ | refine Yf ?_ | refine Yg ?_ | refine Yh ?_ | refine Yi ?_ | refine Yj ?_ | refine Yk ?_ | refine Yl ?_ | refine Ym ?_ | refine Yn ?_ | refine Yo ?_ | refine Yp (h := ?_) | refine Yq ?_ | refine Yr ?_ | refine Ys ?_ | refine Zr hc (hk := ?_) | refine Zd hc (hk := ?_) | (refine Zc (ht := fun hb => ?_) (hf := fun hb => ?_) <;> (try simp at hb)) | fail) | (first | refine Zw hc (hf := by exact hB) (hk := ?_) | refine Zq hc (hf := by exact hB) (hk := ?_) | refine Zo hc (hk := ?_) | refine Zu hc (hk := ?_) | refine Ze hc (hk := ?_) | refine Zn hc (hk := ?_) | fail))
  all_goals (refine Zl hc (hr := ?_))
  refine res_bool ?_
  rw [Bool.eq_iff_iff]
  have e : decide (pathB s) = true ↔ s = [] ∨ (s[0]?.getD 0).toNat = 47 ∧ isRow [63] s := by rw [decide_eq_true_eq]; rfl
  have e47 : ((s[0]?.getD 0).toNat : Int) = 47 ↔ (s[0]?.getD 0).toNat = 47 := by omega
  rw [e, ← hr, ← e47]
  simp
theorem qWritten_ok (a : Adr) (hf : a.Fits) : FnOk Tryz.prog 182 [adrD a] (str (writeA a)) := by
  refine fnOk Tryz.func182 rfl (by kernel_rfl) Tryz.ntmps182 _ rfl (by simp) fun C hc => ?_
  obtain ⟨h1, h2, h3, h4, h5, h6⟩ := hf
  repeat' (first | (first | refine Ya ?_ | refine Yb ?_ | refine Yc ?_ | refine Yd ?_ | refine Ye ?_ | refine Yf ?_ | refine Yg ?_ | refine Yh ?_ | refine Yi ?_ | refine Yj ?_ | refine Yk ?_ | refine Yl ?_ | refine Ym ?_ | refine Yn ?_ | refine Yo ?_ | refine Yp (h := ?_) | refine Yq ?_ | refine Yr ?_ | refine Ys ?_ | refine Zr hc (hk := ?_) | refine Zd hc (hk := ?_) | (refine Zc (ht := fun hb => ?_) (hf := fun hb => ?_) <;> (try simp at hb)) | fail) | (first | refine Zo hc (hk := ?_) | refine Zu hc (hk := ?_) | refine Ze hc (hk := ?_) | refine Zn hc (hk := ?_) | fail))
  all_goals (refine Zl hc (hr := ?_))
  all_goals simp [writeA, behindA, pPart, qPart, fPart, *]
end Go.Proofs.YtnainpghpjelcaaGreatDoor
/-
  CHAPTER 1's REFERENCE: the check and the text of an address. (WITH run_drawN.)
-/
set_option linter.unusedSimpArgs false
set_option linter.unusedVariables false
namespace Go.Proofs.YtnainpghpjelcaaGreatDoor
open Go.Lw Go.RowKit
set_option maxRecDepth 100000
set_option maxHeartbeats 1000000

theorem chk_form {a : Adr} (h : ¬ okS a.scheme ∨ isHostB a.host = false ∨ (a.port ≠ [] ∧ portB a.port = 0) ∨ ¬ pathB a.path ∨ ¬ isRow [] a.query ∨ ¬ isRow [] a.frag) : chkC a = 10 := by
  by_cases hS : chkS a
  · exact chk_S hS
  refine chk_R hS ?_
  simp only [chkS, not_or] at hS
  rcases h with h | h | h | h | h | h
  · exact absurd h hS.1
  · exact absurd h hS.2.1
  · exact absurd h hS.2.2
  · simp only [pathB, not_or, not_and] at h
    by_cases e : (a.path[0]?.getD 0).toNat = 47
    · exact .inr (.inl (h.2 e))
    · exact .inl ⟨h.1, e⟩
  · exact .inr (.inr (.inl h))
  · exact .inr (.inr (.inr h))
theorem chk_formN {a : Adr} (h1 : okS a.scheme) (h2 : isHostB a.host = true) (h3 : a.port ≠ [] → portB a.port ≠ 0) (h4 : pathB a.path) (h5 : isRow [] a.query) (h6 : isRow [] a.frag) : ¬ chkS a ∧ ¬ chkR a := by
  constructor
  · rintro (h | h | h)
    · exact h h1
    · rw [h2] at h; cases h
    · exact h3 h.1 h.2
  · rintro (h | h | h | h)
    · rcases h4 with e | e
      · exact h.1 e
      · exact h.2 e.1
    · rcases h4 with e | e
      · rw [e] at h; exact h rfl
      · exact h e.2
    · exact h h5
    · exact h h6
theorem qCheck_ok (a : Adr) (hf : a.Fits) : FnOk Tryz.prog 133 [adrD a] (int (chkC a)) := by
  refine fnOk Tryz.func133 rfl (by kernel_rfl) Tryz.ntmps133 _ rfl (by simp) fun C hc => ?_
  have hW := qWritten_ok a hf
  obtain ⟨h1, h2, h3, h4, h5, h6⟩ := hf
  have hSc := qIsScheme_ok a.scheme (by omega)
  have hHo := qHost_ok a.host (by omega)
  have hPo := qPort_ok a.port (by omega)
  have hPa := qIsPath_ok a.path (by omega)
  have hR2 := qIsRow_ok a.query (by omega)
  have hR3 := qIsRow_ok a.frag (by omega)
  have hform := chk_form (a := a)
  have hformN := chk_formN (a := a)
  have hcF := chk_F (a := a)
  have hcL := chk_L (a := a)
  have hnF := chk_nF (a := a)
  generalize chkC a = k at hform hcF hcL ⊢
  repeat' (first | (first | refine Ya ?_ | refine Yb ?_ | refine Yc ?_ | refine Yd ?_ | refine Ye ?_ | refine Yf ?_ | refine Yg ?_ | refine Yh ?_ | refine Yi ?_ | refine Yj ?_ | refine Yk ?_ | refine Yl ?_ | refine Ym ?_ | refine Yn ?_ | refine Yo ?_ | refine Yp (h := ?_) | refine Yq ?_ | refine Yr ?_ | refine Ys ?_ | refine Zr hc (hk := ?_) | refine Zd hc (hk := ?_) | (refine Zc (ht := fun hb => ?_) (hf := fun hb => ?_) <;> (try simp at hb)) | fail) | (first | refine Zw hc (hf := by first | exact hSc | exact hHo | exact hPo | exact hPa | exact hR2 | exact hR3 | exact hW) (hk := ?_) | refine Zq hc (hf := by first | exact hSc | exact hHo | exact hPo | exact hPa | exact hR2 | exact hR3 | exact hW) (hk := ?_) | refine Zo hc (hk := ?_) | refine Zu hc (hk := ?_) | refine Ze hc (hk := ?_) | refine Zn hc (hk := ?_) | fail))
  · rw [hform (by
      rcases hb with ((((h | h) | h) | h) | h) | h
      · exact .inl h
      · exact .inr (.inl h)
      · exact .inr (.inr (.inl h))
      · exact .inr (.inr (.inr (.inl h)))
      · exact .inr (.inr (.inr (.inr (.inl h))))
      · exact .inr (.inr (.inr (.inr (.inr h)))))]
    (refine Zl hc (hr := ?_))
    simp
  · rename_i k
    obtain ⟨n1, n2⟩ := hformN k.1.1.1.1.1 k.1.1.1.1.2 k.1.1.1.2 k.1.1.2 k.1.2 k.2
    rw [hcF n1 n2 hb]
    (refine Zl hc (hr := ?_))
    simp
  · rename_i k k2
    obtain ⟨n1, n2⟩ := hformN k.1.1.1.1.1 k.1.1.1.1.2 k.1.1.1.2 k.1.1.2 k.1.2 k.2
    rw [hcL n1 n2 (hnF k2.1 k2.2), if_pos (by omega)]
    (refine Zl hc (hr := ?_))
    simp
  · rename_i k k2
    obtain ⟨n1, n2⟩ := hformN k.1.1.1.1.1 k.1.1.1.1.2 k.1.1.1.2 k.1.1.2 k.1.2 k.2
    rw [hcL n1 n2 (hnF k2.1 k2.2), if_neg (by omega)]
    (refine Zl hc (hr := ?_))
    simp
end Go.Proofs.YtnainpghpjelcaaGreatDoor
