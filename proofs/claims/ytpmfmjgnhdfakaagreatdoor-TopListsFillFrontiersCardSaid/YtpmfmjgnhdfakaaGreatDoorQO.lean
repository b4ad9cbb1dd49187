/-
  CHAPTER 1's REFERENCE: schemes, rows of paths, the text and the check of an address. (WITH run_drawN.)
-/
import Derived.Test.YtpmfmjgnhdfakaaGreatDoorR1D
import Derived.Test.YtpmfmjgnhdfakaaGreatDoorAdH
import Derived.Test.YtpmfmjgnhdfakaaGreatDoorAdL
import Derived.Test.YtpmfmjgnhdfakaaGreatDoorAdO
import Derived.Test.YtpmfmjgnhdfakaaGreatDoorLwRun
import Derived.Test.YtpmfmjgnhdfakaaGreatDoorNm
import Derived.Test.YtpmfmjgnhdfakaaGreatDoorLwPh
import Derived.Lib.AppendIntMem
set_option linter.unusedSimpArgs false
set_option linter.unusedVariables false
namespace Go.Proofs.YtpmfmjgnhdfakaaGreatDoor
open Go.Lw Go.RowKit
set_option maxRecDepth 100000
set_option maxHeartbeats 1000000

theorem rowAt_hexW {w s : Bs} {j : Nat} (hw : ∀ c, w.contains c = true → isHexB c = false) (h : j < s.length) (hx : isHexB (s[j]?.getD 0) = true) : rowAt w s j = rowAt w s (j + 1) := by
  obtain ⟨h1, h2⟩ := hex_row hx
  rw [rowAt_step w s j h, if_neg (fun e => by have := hw _ e; rw [hx] at this; cases this), if_neg (by rw [h1]; decide), if_neg h2]
/-- The first place at which a text is no row without a byte. -/
def rbadW (w s : Bs) : Int := if rowE w s = (s.length, true) then -1 else ((rowE w s).1 : Int)
theorem rbadW_neg (w s : Bs) : rbadW w s < 0 ↔ isRow w s := by
  unfold rbadW isRow
  split
  · rename_i h; simp [h]
  · rename_i h; constructor
    · intro h2; omega
    · intro h2; exact absurd h2 h
theorem qRowBad63_ok (s : Bs) (hm : s.length ≤ 4611686018427387904) : FnOk Tryz.prog 190 [str s, u8 63] (int (rbadW [63] s)) := by
  refine fnOk Tryz.func190 rfl (by kernel_rfl) Tryz.ntmps190 _ rfl (by simp) fun C hc => ?_
  have e0 : rbadW [63] s = if rowAt [63] s 0 = (s.length, true) then -1 else ((rowAt [63] s 0).1 : Int) := by rw [rowAt_zero]; rfl
  rw [e0]
  have hw : ∀ c, ([63] : Bs).contains c = true → isHexB c = false := by
    intro c hc
    have : c = 63 := by simpa using hc
    rw [this]; decide
  repeat' (first | (first | refine Ya ?_ | refine Yb ?_ | refine Yc ?_ | refine Yd ?_ | refine Ye ?_ | refine Yf ?_ | refine Yg ?_ | refine Yh ?_ | refine Yi ?_ | refine Yj ?_ | refine Yk ?_ | refine Yl ?_ | refine Ym ?_ | refine Yn ?_ | refine Yo ?_ | refine Yp (h := ?_) | refine Yq ?_ | refine Yr ?_ | refine Ys ?_ | refine Zr hc (hk := ?_) | refine Zd hc (hk := ?_) | (refine Zc (ht := fun hb => ?_) (hf := fun hb => ?_) <;> (try simp at hb)) | fail) | (first | refine Zo hc (hk := ?_) | refine Zu hc (hk := ?_) | refine Ze hc (hk := ?_) | refine Zn hc (hk := ?_) | fail))
  refine ewp_loop (fun j : Nat => ⟨[(0, .d (str s)), (1, .d (u8 63)), (5, .d (int j))], []⟩) (fun j => j ≤ s.length ∧ rowAt [63] s 0 = rowAt [63] s j) (fun j => s.length - j) 0 (by simp) (run_keep [0, 1, 5] [] (by simp; exact Gives.mk) (by simp; exact Gives.mk)) ?_
  rintro j ⟨h1, h2⟩
  rw [h2]
  have hst := fun h => rowAt_step [63] s j h
  have h37 := toNat_sign (s[j]?.getD 0) 37 (by omega)
  have h63 := toNat_sign (s[j]?.getD 0) 63 (by omega)
  simp only [show UInt8.ofNat 37 = (37 : UInt8) from rfl] at h37
  simp only [show UInt8.ofNat 63 = (63 : UInt8) from rfl] at h63
  have hcon : ([63] : Bs).contains (s[j]?.getD 0) = true ↔ s[j]?.getD 0 = 63 := by simp
  repeat' (first | (first | refine Ya ?_ | refine Yb ?_ | refine Yc ?_ | refine Yd ?_ | refine Ye ?_ | refine Yf ?_ | refine Yg ?_ | refine Yh ?_ | refine Yi ?_ | refine Yj ?_ | refine Yk ?_ | refine Yl ?_ | refine Ym ?_ | refine Yn ?_ | refine Yo ?_ | refine Yp (h := ?_) | refine Yq ?_ | refine Yr ?_ | refine Ys ?_ | refine Zr hc (hk := ?_) | refine Zd hc (hk := ?_) | (refine Zc (ht := fun hb => ?_) (hf := fun hb => ?_) <;> (try simp at hb)) | fail) | (first | refine Zw hc (hf := by first | exact qRowByte_ok _ | exact qHex_ok _) (hk := ?_) | refine Zq hc (hf := by first | exact qRowByte_ok _ | exact qHex_ok _) (hk := ?_) | refine Zo hc (hk := ?_) | refine Zu hc (hk := ?_) | refine Ze hc (hk := ?_) | refine Zn hc (hk := ?_) | fail))
  · have e : (rowAt [63] s j).1 = j := by
      rw [hst (by omega)]
      by_cases hq : ([63] : Bs).contains (s[j]?.getD 0) = true
      · rw [if_pos hq]
      · rw [if_neg hq]
        have hbad : badB (s[j]?.getD 0) = true := by
          rcases hb with h | h
          · exact h
          · exfalso; exact hq (hcon.2 (h63.1 (by omega)))
        rw [if_pos hbad]
    rw [if_neg (fun h => by rw [h] at e; simp at e; omega), e]
    (refine Zl hc (hr := ?_))
    simp
  · rename_i hlt hg
    have hnq : ¬ ([63] : Bs).contains (s[j]?.getD 0) = true := fun h => hg.2 (by have := h63.2 (hcon.1 h); omega)
    have e : rowAt [63] s j = (j, false) := by
      rw [hst (by omega), if_neg hnq, if_neg (by rw [hg.1]; decide), if_pos (h37.1 (by omega)), if_neg (fun e => by
        rcases hb.2 with (h | h) | h
        · omega
        · rw [e.2.1] at h; cases h
        · rw [e.2.2] at h; cases h)]
    rw [e, if_neg (by simp)]
    (refine Zl hc (hr := ?_))
    simp
  · rename_i hlt hg
    have hnq : ¬ ([63] : Bs).contains (s[j]?.getD 0) = true := fun h => hg.2 (by have := h63.2 (hcon.1 h); omega)
    refine ⟨j + 1, ⟨by omega, ?_⟩, by omega, run_back [0, 1, 5] [] (by simp; exact Gives.mk) (by simp; exact Gives.mk) (by simp)⟩
    rw [hst (by omega), if_neg hnq, if_neg (by rw [hg.1]; decide)]
    by_cases h : s[j]?.getD 0 = 37
    · have h4 := hb (by have := h37.2 h; omega)
      rw [if_pos h, if_pos ⟨by omega, h4.1.2, h4.2⟩, rowAt_hexW hw (by omega) h4.1.2, rowAt_hexW hw (by omega) h4.2]
    · rw [if_neg h]
  · rw [rowAt_end [63] s j (by omega), if_pos (by have : j = s.length := by omega
                                                  rw [this])]
    (refine Zl hc (hr := ?_))
    simp
theorem qIsScheme_ok (s : Bs) (hm : s.length ≤ 9223372036854775807) : FnOk Tryz.prog 165 [str s] (tru (decide (okS s))) := by
  refine fnOk Tryz.func165 rfl (by kernel_rfl) Tryz.ntmps165 _ rfl (by simp) fun C hc => ?_
  have hS := qSmall_ok s hm
  have hd : okS s ↔ (small s = [104, 116, 116, 112] ∨ small s = [104, 116, 116, 112, 115]) := Iff.rfl
  repeat' (first | (first | refine Ya ?_ | refine Yb ?_ | refine Yc ?_ | refine Yd ?_ | refine Ye ?_ | refine Yf ?_ | refine Yg ?_ | refine Yh ?_ | refine Yi ?_ | refine Yj ?_ | refine Yk ?_ | refine Yl ?_ | refine Ym ?_ | refine Yn ?_ | refine Yo ?_ | refine Yp (h := ?_) | refine Yq ?_ | refine Yr ?_ | refine Ys ?_ | refine Zr hc (hk := ?_) | refine Zd hc (hk := ?_) | (refine Zc (ht := fun hb => ?_) (hf := fun hb => ?_) <;> (try simp at hb)) | fail) | (first | refine Zw hc (hf := by exact hS) (hk := ?_) | refine Zq hc (hf := by exact hS) (hk := ?_) | refine Zo hc (hk := ?_) | refine Zu hc (hk := ?_) | refine Ze hc (hk := ?_) | refine Zn hc (hk := ?_) | fail))
  all_goals (refine Zl hc (hr := ?_))
  refine res_bool ?_
  rw [Bool.eq_iff_iff]
  simp [hd]
theorem qIsRow_ok (s : Bs) (hm : s.length ≤ 4611686018427387904) : FnOk Tryz.prog 169 [str s] (tru (decide (isRow [] s))) := by
  refine fnOk Tryz.func169 rfl (by kernel_rfl) Tryz.ntmps169 _ rfl (by simp) fun C hc => ?_
  have hB := qRowBad_ok s hm
  have hr : rbad s < 0 ↔ isRow [] s := by
    unfold rbad isRow
    constructor
    · intro h
      split at h
      · rename_i h2; exact Prod.ext (rowE_full s h2) h2
      · omega
    · intro h; rw [h]; simp
  repeat' (first | (first | refine Ya ?_ | refine Yb ?_ | refine Yc ?_ | refine Yd ?_ | refine Ye ?_ | refine Yf ?_ | refine Yg ?_ | refine Yh ?_ | refine Yi ?_ | refine Yj ?_ | refine Yk ?_ | refine Yl ?_ | refine Ym ?_ | refine Yn ?_ | refine Yo ?_ | refine Yp (h := ?_) | refine Yq ?_ | refine Yr ?_ | refine Ys ?_ | refine Zr hc (hk := ?_) | refine Zd hc (hk := ?_) | (refine Zc (ht := fun hb => ?_) (hf := fun hb => ?_) <;> (try simp at hb)) | fail) | (first | refine Zw hc (hf := by exact hB) (hk := ?_) | refine Zq hc (hf := by exact hB) (hk := ?_) | refine Zo hc (hk := ?_) | refine Zu hc (hk := ?_) | refine Ze hc (hk := ?_) | refine Zn hc (hk := ?_) | fail))
  all_goals (refine Zl hc (hr := ?_))
  all_goals simp [hr]
def pathB (s : Bs) : Prop := s = [] ∨ (s[0]?.getD 0).toNat = 47 ∧ isRow [63] s
instance (s : Bs) : Decidable (pathB s) := by unfold pathB; infer_instance
theorem qIsPath_ok (s : Bs) (hm : s.length ≤ 4611686018427387904) : FnOk Tryz.prog 168 [str s] (tru (decide (pathB s))) := by
  refine fnOk Tryz.func168 rfl (by kernel_rfl) Tryz.ntmps168 _ rfl (by simp) fun C hc => ?_
  have hB := qRowBad63_ok s hm
  have hr := rbadW_neg [63] s
  have hpl : ¬ s = [] → 0 < s.length := fun h => List.length_pos_iff.2 h
  repeat' (first | (first | refine Ya ?_ | refine Yb ?_ | refine Yc ?_ | refine Yd ?_ | refine Ye ?_ | refine Yf ?_ | refine Yg ?_ | refine Yh ?_ | refine Yi ?_ | refine Yj ?_ | refine Yk ?_ | refine Yl ?_ | refine Ym ?_ | refine Yn ?_ | refine Yo ?_ | refine Yp (h := ?_) | refine Yq ?_ | refine Yr ?_ | refine Ys ?_ | refine Zr hc (hk := ?_) | refine Zd hc (hk := ?_) | (refine Zc (ht := fun hb => ?_) (hf := fun hb => ?_) <;> (try simp at hb)) | fail) | (first | refine Zw hc (hf := by exact hB) (hk := ?_) | refine Zq hc (hf := by exact hB) (hk := ?_) | refine Zo hc (hk := ?_) | refine Zu hc (hk := ?_) | refine Ze hc (hk := ?_) | refine Zn hc (hk := ?_) | fail))
  all_goals (refine Zl hc (hr := ?_))
  refine res_bool ?_
  rw [Bool.eq_iff_iff]
  have e : decide (pathB s) = true ↔ s = [] ∨ (s[0]?.getD 0).toNat = 47 ∧ isRow [63] s := by rw [decide_eq_true_eq]; rfl
  have e47 : ((s[0]?.getD 0).toNat : Int) = 47 ↔ (s[0]?.getD 0).toNat = 47 := by omega
  rw [e, ← hr, ← e47]
  simp
theorem qWritten_ok (a : Adr) (hf : a.Fits) : FnOk Tryz.prog 170 [adrD a] (str (writeA a)) := by
  refine fnOk Tryz.func170 rfl (by kernel_rfl) Tryz.ntmps170 _ rfl (by simp) fun C hc => ?_
  obtain ⟨h1, h2, h3, h4, h5, h6⟩ := hf
  repeat' (first | (first | refine Ya ?_ | refine Yb ?_ | refine Yc ?_ | refine Yd ?_ | refine Ye ?_ | refine Yf ?_ | refine Yg ?_ | refine Yh ?_ | refine Yi ?_ | refine Yj ?_ | refine Yk ?_ | refine Yl ?_ | refine Ym ?_ | refine Yn ?_ | refine Yo ?_ | refine Yp (h := ?_) | refine Yq ?_ | refine Yr ?_ | refine Ys ?_ | refine Zr hc (hk := ?_) | refine Zd hc (hk := ?_) | (refine Zc (ht := fun hb => ?_) (hf := fun hb => ?_) <;> (try simp at hb)) | fail) | (first | refine Zo hc (hk := ?_) | refine Zu hc (hk := ?_) | refine Ze hc (hk := ?_) | refine Zn hc (hk := ?_) | fail))
  all_goals (refine Zl hc (hr := ?_))
  all_goals simp [writeA, behindA, pPart, qPart, fPart, *]
end Go.Proofs.YtpmfmjgnhdfakaaGreatDoor
/-
  CHAPTER 1's REFERENCE: the check and the text of an address. (WITH run_drawN.)
-/
set_option linter.unusedSimpArgs false
set_option linter.unusedVariables false
namespace Go.Proofs.YtpmfmjgnhdfakaaGreatDoor
open Go.Lw Go.RowKit
set_option maxRecDepth 100000
set_option maxHeartbeats 1000000

theorem chk_form {a : Adr} (h : ¬ okS a.scheme ∨ isHostB a.host = false ∨ (a.port ≠ [] ∧ portB a.port = 0) ∨ ¬ pathB a.path ∨ ¬ isRow [] a.query ∨ ¬ isRow [] a.frag) : chkC a = 10 := by
  by_cases hS : chkS a
  · exact chk_S hS
  refine chk_R hS ?_
  simp only [chkS, not_or] at hS
  rcases h with h | h | h | h | h | h
  · exact absurd h hS.1
  · exact absurd h hS.2.1
  · exact absurd h hS.2.2
  · simp only [pathB, not_or, not_and] at h
    by_cases e : (a.path[0]?.getD 0).toNat = 47
    · exact .inr (.inl (h.2 e))
    · exact .inl ⟨h.1, e⟩
  · exact .inr (.inr (.inl h))
  · exact .inr (.inr (.inr h))
theorem chk_formN {a : Adr} (h1 : okS a.scheme) (h2 : isHostB a.host = true) (h3 : a.port ≠ [] → portB a.port ≠ 0) (h4 : pathB a.path) (h5 : isRow [] a.query) (h6 : isRow [] a.frag) : ¬ chkS a ∧ ¬ chkR a := by
  constructor
  · rintro (h | h | h)
    · exact h h1
    · rw [h2] at h; cases h
    · exact h3 h.1 h.2
  · rintro (h | h | h | h)
    · rcases h4 with e | e
      · exact h.1 e
      · exact h.2 e.1
    · rcases h4 with e | e
      · rw [e] at h; exact h rfl
      · exact h e.2
    · exact h h5
    · exact h h6
theorem qCheck_ok (a : Adr) (hf : a.Fits) : FnOk Tryz.prog 147 [adrD a] (int (chkC a)) := by
  refine fnOk Tryz.func147 rfl (by kernel_rfl) Tryz.ntmps147 _ rfl (by simp) fun C hc => ?_
  have hW := qWritten_ok a hf
  obtain ⟨h1, h2, h3, h4, h5, h6⟩ := hf
  have hSc := qIsScheme_ok a.scheme (by omega)
  have hHo := qHost_ok a.host (by omega)
  have hPo := qPort_ok a.port (by omega)
  have hPa := qIsPath_ok a.path (by omega)
  have hR2 := qIsRow_ok a.query (by omega)
  have hR3 := qIsRow_ok a.frag (by omega)
  have hform := chk_form (a := a)
  have hformN := chk_formN (a := a)
  have hcF := chk_F (a := a)
  have hcL := chk_L (a := a)
  have hnF := chk_nF (a := a)
  generalize chkC a = k at hform hcF hcL ⊢
  repeat' (first | (first | refine Ya ?_ | refine Yb ?_ | refine Yc ?_ | refine Yd ?_ | refine Ye ?_ | refine Yf ?_ | refine Yg ?_ | refine Yh ?_ | refine Yi ?_ | refine Yj ?_ | refine Yk ?_ | refine Yl ?_ | refine Ym ?_ | refine Yn ?_ | refine Yo ?_ | refine Yp (h := ?_) | refine Yq ?_ | refine Yr ?_ | refine Ys ?_ | refine Zr hc (hk := ?_) | refine Zd hc (hk := ?_) | (refine Zc (ht := fun hb => ?_) (hf := fun hb => ?_) <;> (try simp at hb)) | fail) | (first | refine Zw hc (hf := by first | exact hSc | exact hHo | exact hPo | exact hPa | exact hR2 | exact hR3 | exact hW) (hk := ?_) | refine Zq hc (hf := by first | exact hSc | exact hHo | exact hPo | exact hPa | exact hR2 | exact hR3 | exact hW) (hk := ?_) | refine Zo hc (hk := ?_) | refine Zu hc (hk := ?_) | refine Ze hc (hk := ?_) | refine Zn hc (hk := ?_) | fail))
  · rw [hform (by
      rcases hb with ((((h | h) | h) | h) | h) | h
      · exact .inl h
      · exact .inr (.inl h)
      · exact .inr (.inr (.inl h))
      · exact .inr (.inr (.inr (.inl h)))
      · exact .inr (.inr (.inr (.inr (.inl h))))
      · exact .inr (.inr (.inr (.inr (.inr h)))))]
    (refine Zl hc (hr := ?_))
    simp
  · rename_i k
    obtain ⟨n1, n2⟩ := hformN k.1.1.1.1.1 k.1.1.1.1.2 k.1.1.1.2 k.1.1.2 k.1.2 k.2
    rw [hcF n1 n2 hb]
    (refine Zl hc (hr := ?_))
    simp
  · rename_i k k2
    obtain ⟨n1, n2⟩ := hformN k.1.1.1.1.1 k.1.1.1.1.2 k.1.1.1.2 k.1.1.2 k.1.2 k.2
    rw [hcL n1 n2 (hnF k2.1 k2.2), if_pos (by omega)]
    (refine Zl hc (hr := ?_))
    simp
  · rename_i k k2
    obtain ⟨n1, n2⟩ := hformN k.1.1.1.1.1 k.1.1.1.1.2 k.1.1.1.2 k.1.1.2 k.1.2 k.2
    rw [hcL n1 n2 (hnF k2.1 k2.2), if_neg (by omega)]
    (refine Zl hc (hr := ?_))
    simp
end Go.Proofs.YtpmfmjgnhdfakaaGreatDoor
/-
  CHAPTER 1's REFERENCE: the normal form of a row. (WITH run_drawN.)
-/
set_option linter.unusedSimpArgs false
set_option linter.unusedVariables false
namespace Go.Proofs.YtpmfmjgnhdfakaaGreatDoor
open Go.Lw Go.RowKit
set_option maxRecDepth 100000
set_option maxHeartbeats 1000000

theorem hex_128 {c : UInt8} (h : isHexB c = true) : c.toNat < 128 := byte_all (p := fun c => isHexB c = true → c.toNat < 128) (by decide) c h
theorem enc_128 {c : UInt8} (h : c.toNat < 128) : Utf8.encode (c.toNat : Int) = bs [c] := by
  have key : ∀ n : Fin 128, (Utf8.encode (n.val : Int)).data.toList = [UInt8.ofNat n.val] := by decide
  have h2 := key ⟨c.toNat, h⟩
  simp only [UInt8.ofNat_toNat] at h2
  apply ByteArray.ext
  apply Array.ext'
  exact h2
theorem hex_at {c : UInt8} (h : isHexB c = true) : Lib.indexByte [48, 49, 50, 51, 52, 53, 54, 55, 56, 57, 97, 98, 99, 100, 101, 102] (low c) = ((hexV c).toNat : Int) :=
  byte_all (p := fun c => isHexB c = true → Lib.indexByte [48, 49, 50, 51, 52, 53, 54, 55, 56, 57, 97, 98, 99, 100, 101, 102] (low c) = ((hexV c).toNat : Int)) (by decide) c h
theorem qUnhex_ok (c : UInt8) (h : isHexB c = true) : FnOk Tryz.prog 203 [u8 c] (int ((hexV c).toNat : Int)) := by
  refine fnOk Tryz.func203 rfl (by kernel_rfl) Tryz.ntmps203 _ rfl (by simp) fun C hc => ?_
  have hE := enc_128 (hex_128 h)
  have hlt := hex_128 h
  have hS := qSmall_ok [c] (by simp)
  have hI := indexByte_ok [48, 49, 50, 51, 52, 53, 54, 55, 56, 57, 97, 98, 99, 100, 101, 102] (low c)
  rw [hex_at h] at hI
  rw [show small [c] = [low c] from rfl] at hS
  repeat' (first | (first | refine Ya ?_ | refine Yb ?_ | refine Yc ?_ | refine Yd ?_ | refine Ye ?_ | refine Yf ?_ | refine Yg ?_ | refine Yh ?_ | refine Yi ?_ | refine Yj ?_ | refine Yk ?_ | refine Yl ?_ | refine Ym ?_ | refine Yn ?_ | refine Yo ?_ | refine Yp (h := ?_) | refine Yq ?_ | refine Yr ?_ | refine Ys ?_ | refine Zr hc (hk := ?_) | refine Zd hc (hk := ?_) | (refine Zc (ht := fun hb => ?_) (hf := fun hb => ?_) <;> (try simp at hb)) | fail) | (first | refine Zo hc (hk := ?_) | refine Zu hc (hk := ?_) | refine Ze hc (hk := ?_) | refine Zn hc (hk := ?_) | fail))
  rw [hE]
  repeat' (first | (first | refine Ya ?_ | refine Yb ?_ | refine Yc ?_ | refine Yd ?_ | refine Ye ?_ | refine Yf ?_ | refine Yg ?_ | refine Yh ?_ | refine Yi ?_ | refine Yj ?_ | refine Yk ?_ | refine Yl ?_ | refine Ym ?_ | refine Yn ?_ | refine Yo ?_ | refine Yp (h := ?_) | refine Yq ?_ | refine Yr ?_ | refine Ys ?_ | refine Zr hc (hk := ?_) | refine Zd hc (hk := ?_) | (refine Zc (ht := fun hb => ?_) (hf := fun hb => ?_) <;> (try simp at hb)) | fail) | (first | refine Zw hc (hf := by first | exact hS | exact hI) (hk := ?_) | refine Zq hc (hf := by first | exact hS | exact hI) (hk := ?_) | refine Zo hc (hk := ?_) | refine Zu hc (hk := ?_) | refine Ze hc (hk := ?_) | refine Zn hc (hk := ?_) | fail))
  (refine Zl hc (hr := ?_))
  rfl
theorem two_q {h k : UInt8} (hh : isHexB h = true) (hk : isHexB k = true) : 16 * ((hexV h).toNat : Int) + ((hexV k).toNat : Int) = ((two h k).toNat : Int) := by
  have h1 := hexV_lt hh
  have h2 := hexV_lt hk
  unfold two
  simp
  omega
theorem qCoded_ok (s : Bs) (hm : s.length ≤ 100000) (hr : isRow [] s) : FnOk Tryz.prog 192 [str s] (str (normR s)) := by
  refine fnOk Tryz.func192 rfl (by kernel_rfl) Tryz.ntmps192 _ rfl (by simp) fun C hc => ?_
  repeat' (first | (first | refine Ya ?_ | refine Yb ?_ | refine Yc ?_ | refine Yd ?_ | refine Ye ?_ | refine Yf ?_ | refine Yg ?_ | refine Yh ?_ | refine Yi ?_ | refine Yj ?_ | refine Yk ?_ | refine Yl ?_ | refine Ym ?_ | refine Yn ?_ | refine Yo ?_ | refine Yp (h := ?_) | refine Yq ?_ | refine Yr ?_ | refine Ys ?_ | refine Zr hc (hk := ?_) | refine Zd hc (hk := ?_) | (refine Zc (ht := fun hb => ?_) (hf := fun hb => ?_) <;> (try simp at hb)) | fail) | (first | refine Zo hc (hk := ?_) | refine Zu hc (hk := ?_) | refine Ze hc (hk := ?_) | refine Zn hc (hk := ?_) | fail))
  refine ewp_loop (fun x : Nat × Bs => ⟨[(0, .d (str s)), (3, .os 40000 x.2.length), (4, .d (int x.1))], [(40000, .own 5 1 (true, [.lit (.int .u8 0)]) (x.2.map byteRow))]⟩) (fun x => x.1 ≤ s.length ∧ isRow [] (s.drop x.1) ∧ normR s = x.2 ++ normR (s.drop x.1) ∧ x.2.length ≤ x.1) (fun x => s.length - x.1) (0, []) ⟨by simp, by simpa using hr, by simp, by simp⟩ (run_keepB [(3, none, 40000, 5, [.lit (.int .u8 0)])] [0, 3, 4] [40000] (by simp; exact Gives.mk) (by simp; exact Gives.mk) (by simp; exact Gives.mk)) ?_
  rintro ⟨j, m⟩ ⟨h1, h2, h3, h4⟩
  simp only at h1 h2 h3 h4 ⊢
  by_cases hj : j < s.length
  rotate_left
  · rw [List.drop_of_length_le (by omega)] at h3
    rw [h3]
    repeat' (first | (first | refine Ya ?_ | refine Yb ?_ | refine Yc ?_ | refine Yd ?_ | refine Ye ?_ | refine Yf ?_ | refine Yg ?_ | refine Yh ?_ | refine Yi ?_ | refine Yj ?_ | refine Yk ?_ | refine Yl ?_ | refine Ym ?_ | refine Yn ?_ | refine Yo ?_ | refine Yp (h := ?_) | refine Yq ?_ | refine Yr ?_ | refine Ys ?_ | refine Zr hc (hk := ?_) | refine Zd hc (hk := ?_) | (refine Zc (ht := fun hb => ?_) (hf := fun hb => ?_) <;> (try simp at hb)) | fail) | (first | refine Zo hc (hk := ?_) | refine Zu hc (hk := ?_) | refine Ze hc (hk := ?_) | refine Zn hc (hk := ?_) | fail))
    all_goals try (exfalso; omega)
    rw [show normR [] = ([] : Bs) from rfl, List.append_nil]
    (refine Zl hc (hr := ?_))
    simp [one_row]
  by_cases h37 : s[j]?.getD 0 = 37
  rotate_left
  · have e := normR_at s j hj h37
    have h37' : ¬ (((s[j]?.getD 0).toNat : Int) = 37) := fun x => h37 (UInt8.toNat_inj.1 (by simp; omega))
    repeat' (first | (first | refine Ya ?_ | refine Yb ?_ | refine Yc ?_ | refine Yd ?_ | refine Ye ?_ | refine Yf ?_ | refine Yg ?_ | refine Yh ?_ | refine Yi ?_ | refine Yj ?_ | refine Yk ?_ | refine Yl ?_ | refine Ym ?_ | refine Yn ?_ | refine Yo ?_ | refine Yp (h := ?_) | refine Yq ?_ | refine Yr ?_ | refine Ys ?_ | refine Zr hc (hk := ?_) | refine Zd hc (hk := ?_) | (refine Zc (ht := fun hb => ?_) (hf := fun hb => ?_) <;> (try simp at hb)) | fail) | (first | refine Zo hc (hk := ?_) | refine Zu hc (hk := ?_) | refine Ze hc (hk := ?_) | refine Zn hc (hk := ?_) | fail))
    all_goals try (exfalso; omega)
    refine ⟨(j + 1, m ++ [s[j]?.getD 0]), ⟨by simp; omega, row_one hj h2 h37, by rw [h3, e]; simp, by simp; omega⟩, by simp; omega, run_back [0, 3, 4] [40000] (by simp; exact Gives.mk) (by simp; exact Gives.mk) (by simp)⟩
  · obtain ⟨g1, g2, g3, g4⟩ := row_three hj h2 h37
    have e := normR_pc s j g1 h37
    have h37' : (((s[j]?.getD 0).toNat : Int) = 37) := by rw [h37]; rfl
    have hn := two_q g2 g3
    have b1 := hexV_lt g2
    have b2 := hexV_lt g3
    repeat' (first | (first | refine Ya ?_ | refine Yb ?_ | refine Yc ?_ | refine Yd ?_ | refine Ye ?_ | refine Yf ?_ | refine Yg ?_ | refine Yh ?_ | refine Yi ?_ | refine Yj ?_ | refine Yk ?_ | refine Yl ?_ | refine Ym ?_ | refine Yn ?_ | refine Yo ?_ | refine Yp (h := ?_) | refine Yq ?_ | refine Yr ?_ | refine Ys ?_ | refine Zr hc (hk := ?_) | refine Zd hc (hk := ?_) | (refine Zc (ht := fun hb => ?_) (hf := fun hb => ?_) <;> (try simp at hb)) | fail) | (first | refine Zw hc (hf := by first | exact qUnhex_ok _ g2 | exact qUnhex_ok _ g3) (hk := ?_) | refine Zq hc (hf := by first | exact qUnhex_ok _ g2 | exact qUnhex_ok _ g3) (hk := ?_) | refine Zo hc (hk := ?_) | refine Zu hc (hk := ?_) | refine Ze hc (hk := ?_) | refine Zn hc (hk := ?_) | fail))
    all_goals try (exfalso; omega)
    rw [hn]
    generalize two (s[j + 1]?.getD 0) (s[j + 2]?.getD 0) = c at e
    clear hn
    repeat' (first | (first | refine Ya ?_ | refine Yb ?_ | refine Yc ?_ | refine Yd ?_ | refine Ye ?_ | refine Yf ?_ | refine Yg ?_ | refine Yh ?_ | refine Yi ?_ | refine Yj ?_ | refine Yk ?_ | refine Yl ?_ | refine Ym ?_ | refine Yn ?_ | refine Yo ?_ | refine Yp (h := ?_) | refine Yq ?_ | refine Yr ?_ | refine Ys ?_ | refine Zr hc (hk := ?_) | refine Zd hc (hk := ?_) | (refine Zc (ht := fun hb => ?_) (hf := fun hb => ?_) <;> (try simp at hb)) | fail) | (first | refine Zw hc (hf := by first | exact qLetter_ok _ | exact qDigit_ok _) (hk := ?_) | refine Zq hc (hf := by first | exact qLetter_ok _ | exact qDigit_ok _) (hk := ?_) | refine Zo hc (hk := ?_) | refine Zu hc (hk := ?_) | refine Ze hc (hk := ?_) | refine Zn hc (hk := ?_) | fail))
    · have hk : keepC c = true := by
        rcases hb with ((((h | h) | h) | h) | h) | h
        · simp [keepC, h]
        · simp [keepC, h]
        · simp [keepC, show c.toNat = 45 by omega]
        · simp [keepC, show c.toNat = 46 by omega]
        · simp [keepC, show c.toNat = 95 by omega]
        · simp [keepC, show c.toNat = 126 by omega]
      have hB : normB c = [c] := by unfold normB; rw [if_pos hk]
      rw [hB] at e
      refine ⟨(j + 3, m ++ [c]), ⟨by simp; omega, g4, by rw [h3, e]; simp, by simp; omega⟩, by simp; omega, run_back [0, 3, 4] [40000] (by simp; exact Gives.mk) (by simp; exact Gives.mk) (by simp; omega)⟩
    · have hk : keepC c = false := by
        have n1 : ¬ c.toNat = 45 := by omega
        have n2 : ¬ c.toNat = 46 := by omega
        have n3 : ¬ c.toNat = 95 := by omega
        have n4 : ¬ c.toNat = 126 := by omega
        simp [keepC, hb.1.1.1.1.1, hb.1.1.1.1.2, n1, n2, n3, n4]
      have hB : normB c = [37, bigH (c.toNat / 16), bigH (c.toNat % 16)] := by unfold normB; rw [if_neg (by rw [hk]; decide)]
      rw [hB] at e
      have hcl := c.toNat_lt
      have hd1 : c.toNat / 16 < 16 := by omega
      have hd2 : c.toNat % 16 < 16 := by omega
      have hi : (c.toNat : Int).tdiv 16 = ((c.toNat / 16 : Nat) : Int) := by rw [Int.tdiv_eq_ediv_of_nonneg (by omega)]; omega
      have lo : (c.toNat : Int).tmod 16 = ((c.toNat % 16 : Nat) : Int) := by rw [Int.tmod_eq_emod_of_nonneg (by omega)]; omega
      (apply run_drawAny 10 hc (by kernel_rfl) rfl; (focus (refine run_anyM 0 hc rfl (by kernel_rfl) rfl (by first | exact .inl rfl | exact .inr rfl) (by simp [hi, lo]; exact Gives.mk) (by simp) (by simp [hi, lo]; exact Gives.mk) ?_; refine run_anyM 1 hc rfl (by kernel_rfl) rfl (by first | exact .inl rfl | exact .inr rfl) (by simp [hi, lo]; exact Gives.mk) (by simp) (by simp [hi, lo]; exact Gives.mk) ?_; refine run_anyP 2 hc rfl (by kernel_rfl) rfl (by simp [hi, lo]; exact Gives.mk) (by first | exact True.intro | omega | (simp; done) | (simp; omega) | (simp at *; omega)) (by simp) (by simp) (by simp [hi, lo]; exact Gives.mk) ?_; refine run_anyP 3 hc rfl (by kernel_rfl) rfl (by simp [hi, lo]; exact Gives.mk) (by first | exact True.intro | omega | (simp; done) | (simp; omega) | (simp at *; omega)) (by simp) (by simp) (by simp [hi, lo]; exact Gives.mk) ?_; refine run_anyM 4 hc rfl (by kernel_rfl) rfl (by first | exact .inl rfl | exact .inr rfl) (by simp [hi, lo]; exact Gives.mk) (by simp) (by simp [hi, lo]; exact Gives.mk) ?_; refine run_anyP 5 hc rfl (by kernel_rfl) rfl (by simp [hi, lo]; exact Gives.mk) (by first | exact True.intro | omega | (simp; done) | (simp; omega) | (simp at *; omega)) (by simp) (by simp) (by simp [hi, lo]; exact Gives.mk) ?_; refine run_anyP 6 hc rfl (by kernel_rfl) rfl (by simp [hi, lo]; exact Gives.mk) (by first | exact True.intro | omega | (simp; done) | (simp; omega) | (simp at *; omega)) (by simp) (by simp) (by simp [hi, lo]; exact Gives.mk) ?_; refine anyW_all [7] (by kernel_rfl) rfl ?_; (focus (refine run_stepW hc rfl (by simp [hi, lo]; exact Ends.go) (by first | exact True.intro | omega | (simp; done) | (simp; omega) | (simp at *; omega)) ?_; refine anyW_all [8] (by kernel_rfl) rfl ?_; (focus (refine run_stepW hc rfl (by simp [hi, lo]; exact Ends.go) (by first | exact True.intro | omega | (simp; done) | (simp; omega) | (simp at *; omega)) ?_; refine run_anyM 9 hc rfl (by kernel_rfl) rfl (by first | exact .inl rfl | exact .inr rfl) (by simp [hi, lo]; exact Gives.mk) (by simp) (by simp [hi, lo]; exact Gives.mk) ?_; refine anyW_done (by kernel_rfl) ?_; exact run_keep [0, 3, 4] [40000] (by simp [hi, lo]; try exact Gives.mk) (by simp [hi, lo]; try exact Gives.mk))))))))
      repeat' (first | (first | refine Ya ?_ | refine Yb ?_ | refine Yc ?_ | refine Yd ?_ | refine Ye ?_ | refine Yf ?_ | refine Yg ?_ | refine Yh ?_ | refine Yi ?_ | refine Yj ?_ | refine Yk ?_ | refine Yl ?_ | refine Ym ?_ | refine Yn ?_ | refine Yo ?_ | refine Yp (h := ?_) | refine Yq ?_ | refine Yr ?_ | refine Ys ?_ | refine Zr hc (hk := ?_) | refine Zd hc (hk := ?_) | (refine Zc (ht := fun hb => ?_) (hf := fun hb => ?_) <;> (try simp at hb)) | fail) | (first | refine Zo hc (hk := ?_) | refine Zu hc (hk := ?_) | refine Ze hc (hk := ?_) | refine Zn hc (hk := ?_) | fail))
      have e1 : ((c.toNat : Int) / 16).toNat = c.toNat / 16 := by omega
      have e2 : ((c.toNat : Int) % 16).toNat = c.toNat % 16 := by omega
      refine ⟨(j + 3, m ++ [37, bigH (c.toNat / 16), bigH (c.toNat % 16)]), ⟨by simp; omega, g4, by rw [h3, e]; simp, by simp; omega⟩, by simp; omega, run_back [0, 3, 4] [40000] (by simp; exact Gives.mk) (by simp; exact Gives.mk) (by simp [bigH, hi, lo, e1, e2]; omega)⟩
end Go.Proofs.YtpmfmjgnhdfakaaGreatDoor
/-
  CHAPTER 1's REFERENCE: dots of paths. (WITH run_drawN.)
-/
set_option linter.unusedSimpArgs false
set_option linter.unusedVariables false
namespace Go.Proofs.YtpmfmjgnhdfakaaGreatDoor
open Go.Lw Go.RowKit
set_option maxRecDepth 100000
set_option maxHeartbeats 1000000

/-- What is left of the parts, without the one that is put at the end. -/
def udQ (P : List Bs) : Nat → List Bs
  | 0 => []
  | j + 1 => udStep false (udQ P j) (P[j]?.getD [])
theorem udQ_at (P : List Bs) : ∀ j, j < P.length → udAt P j = udQ P j
  | 0, _ => rfl
  | j + 1, h => by
    have e : decide (j + 1 = P.length) = false := decide_eq_false (by omega)
    simp only [udAt, udQ]
    rw [e, udQ_at P j (by omega)]
theorem udQ_end (P : List Bs) (h : 0 < P.length) : udAt P P.length = if P[P.length - 1]?.getD [] = [46] ∨ P[P.length - 1]?.getD [] = [46, 46] then udQ P P.length ++ [[]] else udQ P P.length := by
  obtain ⟨n, hn⟩ : ∃ n, P.length = n + 1 := ⟨P.length - 1, by omega⟩
  rw [hn, Nat.add_sub_cancel]
  simp only [udAt, udQ]
  rw [udQ_at P n (by omega), decide_eq_true hn.symm]
  unfold udStep
  by_cases h1 : P[n]?.getD [] = [46, 46]
  · rw [if_pos h1, if_pos rfl, if_pos (.inr h1), if_pos h1, if_neg (by decide)]
  · rw [if_neg h1, if_neg h1]
    by_cases h2 : P[n]?.getD [] = [46]
    · rw [if_pos h2, if_pos rfl, if_pos (.inl h2), if_pos h2, if_neg (by decide)]
    · rw [if_neg h2, if_neg h2, if_neg (by simp [h1, h2])]
theorem udQ_mem (P : List Bs) (M : Nat) (hP : ∀ j : Nat, (P[j]?.getD []).length ≤ M) : ∀ j, ∀ x ∈ udQ P j, x.length ≤ M
  | 0, x, h => by simp [udQ] at h
  | j + 1, x, h => by
    rcases udStep_mem _ _ _ _ h with h | h | h
    · exact udQ_mem P M hP j x h
    · rw [h]; exact hP j
    · rw [h]; simp
theorem slash_join : ∀ L : List Bs, L ≠ [] → (L.map fun x => (47 : UInt8) :: x).flatten = 47 :: Lib.join L [47]
  | [], h => absurd rfl h
  | [x], _ => by rw [Lib.join_one]; simp
  | x :: y :: L, _ => by
    have := slash_join (y :: L) (by simp)
    rw [List.map_cons, List.flatten_cons, this, join_two]
    simp
def slashed (F : List Bs) (i : Nat) : Bs := ((F.take i).map fun x => (47 : UInt8) :: x).flatten
theorem slash_len (M : Nat) (F : List Bs) (i : Nat) (h : ∀ x ∈ F, x.length ≤ M) : (slashed F i).length ≤ F.length * (M + 1) := by
  have key : ∀ L : List Bs, (∀ x ∈ L, x.length ≤ M) → (L.map fun x => (47 : UInt8) :: x).flatten.length ≤ L.length * (M + 1) := by
    intro L
    induction L with
    | nil => intro _; simp
    | cons x L ih =>
      intro h
      have h1 := ih (fun y hy => h y (List.mem_cons_of_mem _ hy))
      have h2 := h x (by simp)
      rw [List.map_cons, List.flatten_cons, List.length_append, List.length_cons, List.length_cons, Nat.succ_mul]
      omega
  have h1 := key (F.take i) (fun x hx => h x (List.mem_of_mem_take hx))
  have h2 : (F.take i).length ≤ F.length := by simp; omega
  exact Nat.le_trans h1 (Nat.mul_le_mul_right _ h2)
theorem slash_zero (F : List Bs) : slashed F 0 = [] := rfl
theorem slash_next (F : List Bs) (i : Nat) (h : i < F.length) : slashed F (i + 1) = slashed F i ++ 47 :: F[i]?.getD [] := by
  unfold slashed
  rw [List.take_add_one, List.getElem?_eq_getElem h, List.map_append, List.flatten_append]
  simp
theorem split_slash (r : Bs) : Lib.split (47 :: r) [47] = [] :: Lib.split r [47] := split_app 47 [] r (by simp)
theorem qDots_ok (r : Bs) (hm : r.length ≤ 99999) : FnOk Tryz.prog 191 [str (47 :: r)] (str (undotP (47 :: r))) := by
  refine fnOk Tryz.func191 rfl (by kernel_rfl) Tryz.ntmps191 _ rfl (by simp) fun C hc => ?_
  have hsp := split_ok (47 :: r) 47 (by simp; omega)
  rw [split_slash] at hsp
  have hU : undotP (47 :: r) = 47 :: Lib.join (udAt (Lib.split r [47]) (Lib.split r [47]).length) [47] := by
    unfold undotP
    rw [if_neg (by simp)]
    rfl
  rw [hU]
  have hne := split_ne 47 r
  have hlen := split_len r 47
  have heach := split_each 47 r
  generalize Lib.split r [47] = P at hsp hne hlen heach ⊢
  have hP1 : 1 ≤ P.length := List.length_pos_iff.2 hne
  have hPm : ∀ j : Nat, (P[j]?.getD []).length ≤ 100000 := by
    intro j
    rcases Nat.lt_or_ge j P.length with hj | hj
    · rw [List.getElem?_eq_getElem hj]
      have := heach _ (List.getElem_mem hj)
      simp only [Option.getD_some]
      omega
    · rw [List.getElem?_eq_none hj]; simp
  have hv : (1 : Int) ≤ ↑P.length + 1 ∧ ∀ (i : Nat), i < P.length + 1 → (([str []] :: List.map (fun x => [str x]) P)[i]?.getD [str []]).length = 1 := ⟨by omega, fun i hi => by
    cases i with
    | zero => rfl
    | succ i => rw [List.getElem?_cons_succ, List.getElem?_map, List.getElem?_eq_getElem (by omega)]; rfl⟩
  have e3 : (fun i => ([str []] :: List.map (fun x => [str x]) P)[1 + i]?.getD [str []]) = fun i => [str (P[i]?.getD [])] := by
    funext i
    rw [Nat.add_comm, List.getElem?_cons_succ, List.getElem?_map]
    cases P[i]? <;> rfl
  have hF := udQ_end P hP1
  repeat' (first | (first | refine Ya ?_ | refine Yb ?_ | refine Yc ?_ | refine Yd ?_ | refine Ye ?_ | refine Yf ?_ | refine Yg ?_ | refine Yh ?_ | refine Yi ?_ | refine Yj ?_ | refine Yk ?_ | refine Yl ?_ | refine Ym ?_ | refine Yn ?_ | refine Yo ?_ | refine Yp (h := ?_) | refine Yq ?_ | refine Yr ?_ | refine Ys ?_ | refine Zr hc (hk := ?_) | refine Zd hc (hk := ?_) | (refine Zc (ht := fun hb => ?_) (hf := fun hb => ?_) <;> (try simp at hb)) | fail) | (first | refine Zw hc (hf := by exact hsp) (hk := ?_) | refine Zq hc (hf := by exact hsp) (hk := ?_) | refine Zo hc (hk := ?_) | refine Zu hc (hk := ?_) | refine Ze hc (hk := ?_) | refine Zn hc (hk := ?_) | fail))
  rw [e3]
  refine ewp_loop (fun x : Nat × List Bs × Nat => ⟨[(3, .d (.sl P.length fun i => [str (P[i]?.getD [])])), (4, .os 40000 x.2.2), (5, .d (int x.1))], [(40000, .own 9 1 (true, [str []]) (x.2.1.map fun y => [str y]))]⟩) (fun x => x.1 ≤ P.length ∧ x.2.2 ≤ x.2.1.length ∧ x.2.1.length ≤ x.1 ∧ x.2.1.take x.2.2 = udQ P x.1 ∧ (¬ (P[x.1 - 1]?.getD [] = [46] ∨ P[x.1 - 1]?.getD [] = [46, 46]) → 0 < x.1 → x.2.2 = x.2.1.length)) (fun x => P.length - x.1) (0, [], 0) (by simp [udQ]) (run_keepB [(4, none, 40000, 9, [str []])] [3, 4, 5] [40000] (by simp; exact Gives.mk) (by simp; exact Gives.mk) (by simp; exact Gives.mk)) ?_
  rintro ⟨j, es, n⟩ ⟨h1, h2, h3, h4, h5⟩
  simp only at h1 h2 h3 h4 h5 ⊢
  by_cases hj : j < P.length
  · have hst : udQ P (j + 1) = udStep false (udQ P j) (P[j]?.getD []) := rfl
    rw [← h4] at hst
    have eM : (if 1 < (n : Int) then (n : Int) - 1 else 0).toNat = n - 1 := by split <;> omega
    have htk : (es.take n).length = n := by simp; omega
    have htt : (es.take n).take (n - 1) = es.take (n - 1) := by rw [List.take_take]; congr 1; omega
    unfold udStep at hst
    rw [htk, htt] at hst
    repeat' (first | (first | refine Ya ?_ | refine Yb ?_ | refine Yc ?_ | refine Yd ?_ | refine Ye ?_ | refine Yf ?_ | refine Yg ?_ | refine Yh ?_ | refine Yi ?_ | refine Yj ?_ | refine Yk ?_ | refine Yl ?_ | refine Ym ?_ | refine Yn ?_ | refine Yo ?_ | refine Yp (h := ?_) | refine Yq ?_ | refine Yr ?_ | refine Ys ?_ | refine Zr hc (hk := ?_) | refine Zd hc (hk := ?_) | (refine Zc (ht := fun hb => ?_) (hf := fun hb => ?_) <;> (try simp at hb)) | fail) | (first | refine Zo hc (hk := ?_) | refine Zu hc (hk := ?_) | refine Ze hc (hk := ?_) | refine Zn hc (hk := ?_) | fail))
    · rw [if_pos hb, if_neg (by decide)] at hst
      exact ⟨(j + 1, es, n - 1), ⟨by simp only; omega, by simp only; omega, by simp only; omega, hst.symm, fun hnd => absurd (Or.inr (by simpa using hb)) hnd⟩, by simp only; omega, run_back [3, 4, 5] [40000] (by simp; exact Gives.mk) (by simp; exact Gives.mk) (by rw [eM]; simp)⟩
    · rename_i g
      rw [if_neg g, if_neg hb] at hst
      refine ⟨(j + 1, es.take n ++ [P[j]?.getD []], n + 1), ⟨by simp only; omega, by simp; omega, by simp; omega, ?_, fun _ _ => by simp; omega⟩, by simp only; omega, run_back [3, 4, 5] [40000] (by simp; exact Gives.mk) (by simp; exact Gives.mk) (by simp [List.map_take])⟩
      simp only
      rw [hst, List.take_of_length_le (by simp; omega)]
    · rename_i g
      rw [if_neg g, if_pos hb, if_neg (by decide)] at hst
      exact ⟨(j + 1, es, n), ⟨by simp only; omega, by simp only; omega, by simp only; omega, hst.symm.trans rfl, fun hnd => absurd (Or.inl (by simpa using hb)) hnd⟩, by simp only; omega, run_back [3, 4, 5] [40000] (by simp; exact Gives.mk) (by simp; exact Gives.mk) (by simp)⟩
    all_goals (exfalso; omega)
  · obtain rfl : j = P.length := by omega
    have hm1 := udQ_mem P 100000 hPm P.length
    have hFn := udAt_ne P hP1
    have hFm : ∀ x ∈ udAt P P.length, x.length ≤ 100000 := by
      intro x hx
      rw [hF] at hx
      split at hx
      · rcases List.mem_append.1 hx with hx | hx
        · exact hm1 x hx
        · rw [show x = [] by simpa using hx]; simp
      · exact hm1 x hx
    have hFl : (udAt P P.length).length ≤ 100002 := by have := udAt_len P P.length; omega
    generalize udAt P P.length = F at hF hFn hFm hFl ⊢
    repeat' (first | (first | refine Ya ?_ | refine Yb ?_ | refine Yc ?_ | refine Yd ?_ | refine Ye ?_ | refine Yf ?_ | refine Yg ?_ | refine Yh ?_ | refine Yi ?_ | refine Yj ?_ | refine Yk ?_ | refine Yl ?_ | refine Ym ?_ | refine Yn ?_ | refine Yo ?_ | refine Yp (h := ?_) | refine Yq ?_ | refine Yr ?_ | refine Ys ?_ | refine Zr hc (hk := ?_) | refine Zd hc (hk := ?_) | (refine Zc (ht := fun hb => ?_) (hf := fun hb => ?_) <;> (try simp at hb)) | fail) | (first | refine Zo hc (hk := ?_) | refine Zu hc (hk := ?_) | refine Ze hc (hk := ?_) | refine Zn hc (hk := ?_) | fail))
    · rw [if_pos hb, ← h4] at hF
      have e1 : F.length = n + 1 := by rw [hF]; simp; omega
      have e2 : (F.map fun y => [str y]) = List.take n (es.map fun y => [str y]) ++ [[str []]] := by rw [hF]; simp [List.map_take]
      refine ewp_loop (fun i : Nat => ⟨[(4, .os 40000 F.length), (7, .d (str (slashed F i))), (8, .d (int i))], [(40000, .own 9 1 (true, [str []]) (F.map fun y => [str y]))]⟩) (fun i => i ≤ F.length) (fun i => F.length - i) 0 (by simp) (run_back [4, 7, 8] [40000] (by simp; exact Gives.mk) (by simp; exact Gives.mk) (by rw [e1, e2, slash_zero]; simp)) ?_
      intro i hi
      have hb1 := slash_len 100000 F i hFm
      have hb1 : (slashed F i).length ≤ 10000300002 := by omega
      by_cases hlt : i < F.length
      · have hst := slash_next F i hlt
        have hb2 : (F[i]?.getD []).length ≤ 100000 := by rw [List.getElem?_eq_getElem hlt]; exact hFm _ (List.getElem_mem hlt)
        repeat' (first | (first | refine Ya ?_ | refine Yb ?_ | refine Yc ?_ | refine Yd ?_ | refine Ye ?_ | refine Yf ?_ | refine Yg ?_ | refine Yh ?_ | refine Yi ?_ | refine Yj ?_ | refine Yk ?_ | refine Yl ?_ | refine Ym ?_ | refine Yn ?_ | refine Yo ?_ | refine Yp (h := ?_) | refine Yq ?_ | refine Yr ?_ | refine Ys ?_ | refine Zr hc (hk := ?_) | refine Zd hc (hk := ?_) | (refine Zc (ht := fun hb => ?_) (hf := fun hb => ?_) <;> (try simp at hb)) | fail) | (first | refine Zo hc (hk := ?_) | refine Zu hc (hk := ?_) | refine Ze hc (hk := ?_) | refine Zn hc (hk := ?_) | fail))
        · exact ⟨i + 1, by omega, by omega, run_back [4, 7, 8] [40000] (by simp; exact Gives.mk) (by simp; exact Gives.mk) (by rw [hst]; simp)⟩
        all_goals (exfalso; omega)
      · obtain rfl : i = F.length := by omega
        have hjn := slash_join F hFn
        have hsl : slashed F F.length = 47 :: Lib.join F [47] := by unfold slashed; rw [List.take_length]; exact hjn
        rw [← hsl]
        repeat' (first | (first | refine Ya ?_ | refine Yb ?_ | refine Yc ?_ | refine Yd ?_ | refine Ye ?_ | refine Yf ?_ | refine Yg ?_ | refine Yh ?_ | refine Yi ?_ | refine Yj ?_ | refine Yk ?_ | refine Yl ?_ | refine Ym ?_ | refine Yn ?_ | refine Yo ?_ | refine Yp (h := ?_) | refine Yq ?_ | refine Yr ?_ | refine Ys ?_ | refine Zr hc (hk := ?_) | refine Zd hc (hk := ?_) | (refine Zc (ht := fun hb => ?_) (hf := fun hb => ?_) <;> (try simp at hb)) | fail) | (first | refine Zo hc (hk := ?_) | refine Zu hc (hk := ?_) | refine Ze hc (hk := ?_) | refine Zn hc (hk := ?_) | fail))
        all_goals try (exfalso; omega)
        (refine Zl hc (hr := ?_))
        simp
    · rw [if_neg (by simp [hb]), ← h4] at hF
      have e0 := h5 (by simp [hb]) (by omega)
      rw [e0, List.take_length] at hF
      subst hF
      subst e0
      refine ewp_loop (fun i : Nat => ⟨[(4, .os 40000 F.length), (7, .d (str (slashed F i))), (8, .d (int i))], [(40000, .own 9 1 (true, [str []]) (F.map fun y => [str y]))]⟩) (fun i => i ≤ F.length) (fun i => F.length - i) 0 (by simp) (run_back [4, 7, 8] [40000] (by simp; exact Gives.mk) (by simp; exact Gives.mk) (by rw [slash_zero]; simp)) ?_
      intro i hi
      have hb1 := slash_len 100000 F i hFm
      have hb1 : (slashed F i).length ≤ 10000300002 := by omega
      by_cases hlt : i < F.length
      · have hst := slash_next F i hlt
        have hb2 : (F[i]?.getD []).length ≤ 100000 := by rw [List.getElem?_eq_getElem hlt]; exact hFm _ (List.getElem_mem hlt)
        repeat' (first | (first | refine Ya ?_ | refine Yb ?_ | refine Yc ?_ | refine Yd ?_ | refine Ye ?_ | refine Yf ?_ | refine Yg ?_ | refine Yh ?_ | refine Yi ?_ | refine Yj ?_ | refine Yk ?_ | refine Yl ?_ | refine Ym ?_ | refine Yn ?_ | refine Yo ?_ | refine Yp (h := ?_) | refine Yq ?_ | refine Yr ?_ | refine Ys ?_ | refine Zr hc (hk := ?_) | refine Zd hc (hk := ?_) | (refine Zc (ht := fun hb => ?_) (hf := fun hb => ?_) <;> (try simp at hb)) | fail) | (first | refine Zo hc (hk := ?_) | refine Zu hc (hk := ?_) | refine Ze hc (hk := ?_) | refine Zn hc (hk := ?_) | fail))
        · exact ⟨i + 1, by omega, by omega, run_back [4, 7, 8] [40000] (by simp; exact Gives.mk) (by simp; exact Gives.mk) (by rw [hst]; simp)⟩
        all_goals (exfalso; omega)
      · obtain rfl : i = F.length := by omega
        have hjn := slash_join F hFn
        have hsl : slashed F F.length = 47 :: Lib.join F [47] := by unfold slashed; rw [List.take_length]; exact hjn
        rw [← hsl]
        repeat' (first | (first | refine Ya ?_ | refine Yb ?_ | refine Yc ?_ | refine Yd ?_ | refine Ye ?_ | refine Yf ?_ | refine Yg ?_ | refine Yh ?_ | refine Yi ?_ | refine Yj ?_ | refine Yk ?_ | refine Yl ?_ | refine Ym ?_ | refine Yn ?_ | refine Yo ?_ | refine Yp (h := ?_) | refine Yq ?_ | refine Yr ?_ | refine Ys ?_ | refine Zr hc (hk := ?_) | refine Zd hc (hk := ?_) | (refine Zc (ht := fun hb => ?_) (hf := fun hb => ?_) <;> (try simp at hb)) | fail) | (first | refine Zo hc (hk := ?_) | refine Zu hc (hk := ?_) | refine Ze hc (hk := ?_) | refine Zn hc (hk := ?_) | fail))
        all_goals try (exfalso; omega)
        (refine Zl hc (hr := ?_))
        simp
end Go.Proofs.YtpmfmjgnhdfakaaGreatDoor
/-
  CHAPTER 1's REFERENCE: Relative; AddressRelativesMatchSpec's own walk. (WITH run_drawN.)
-/
set_option linter.unusedSimpArgs false
set_option linter.unusedVariables false
namespace Go.Proofs.YtpmfmjgnhdfakaaGreatDoor
open Go.Lw Go.RowKit
set_option maxRecDepth 100000
set_option maxHeartbeats 1000000

theorem qDots0_ok : FnOk Tryz.prog 191 [str []] (str []) := by
  refine fnOk Tryz.func191 rfl (by kernel_rfl) Tryz.ntmps191 _ rfl (by simp) fun C hc => ?_
  repeat' (first | (first | refine Ya ?_ | refine Yb ?_ | refine Yc ?_ | refine Yd ?_ | refine Ye ?_ | refine Yf ?_ | refine Yg ?_ | refine Yh ?_ | refine Yi ?_ | refine Yj ?_ | refine Yk ?_ | refine Yl ?_ | refine Ym ?_ | refine Yn ?_ | refine Yo ?_ | refine Yp (h := ?_) | refine Yq ?_ | refine Yr ?_ | refine Ys ?_ | refine Zr hc (hk := ?_) | refine Zd hc (hk := ?_) | (refine Zc (ht := fun hb => ?_) (hf := fun hb => ?_) <;> (try simp at hb)) | fail) | (first | refine Zo hc (hk := ?_) | refine Zu hc (hk := ?_) | refine Ze hc (hk := ?_) | refine Zn hc (hk := ?_) | fail))
  all_goals try contradiction
  (refine Zl hc (hr := ?_))
  simp
theorem qDotsA_ok (p : Bs) (h : p = [] ∨ p[0]? = some 47) (hm : p.length ≤ 100000) : FnOk Tryz.prog 191 [str p] (str (undotP p)) := by
  cases p with
  | nil => exact qDots0_ok
  | cons c r =>
    have e : c = 47 := by
      rcases h with h | h
      · cases h
      · simpa using h
    subst e
    exact qDots_ok r (by simp at hm; omega)
end Go.Proofs.YtpmfmjgnhdfakaaGreatDoor
/-
  A CALL THAT HANDS BACK SOMETHING OF WHICH A PART IS NOT KNOWN (an error, say).
-/
set_option linter.unusedSimpArgs false
set_option linter.unusedVariables false
namespace Go.Lw
open Go Go.RowKit

/-- THE CONTRACT OF A PURE FUNCTION, its result not all data. -/
def FnV (P : Program) (f : FuncId) (args : List D) (res : V) : Prop :=
  callB P f = true ∧ ∀ (ok : Nat → Prop) (w : World) (vs : Array Value), (∀ k, ok k → k < w.heap.size) → Std P w → ArgsRd w ok args vs →
    Calls P f vs w fun e w' => ∃ v, e = .returned v ∧ Below w.heap.size w w' ∧ ∀ h, RdV w' (fresh ok w w') h res v
section
variable {C : Ctx} {P : Program} {nt : Nat} {st st' : St} {Q : Exit → St → Prop} {K : St → Prop} {o : Oper} {rest : List Oper} {ops : Array Oper}
theorem opsW_callV {x : Operand} {f : FuncId} {args : Array Operand} {ts : Array TypeId} {y : V} {xs caps : List V} {ds : List D} {g : Bool} {res : V} (hc : CtxOk C)
    (hw : gE ops o st = some g) (ho : o.op = .call { callee := .value x, args := args, argTypes := ts }) (hy : ev g st x = some y) (hx : calleeE (some y) = some (f, caps)) (hl : evL g st args.toList = some xs) (ha : asDL st (xs ++ caps) = some (ds, false))
    (hf : g = true → FnV C.P f ds res) (hd : dstB C.nt o.dst = true) (hk : opsW C ops rest (st.put o.dst (whenE o g res)) K) : opsW C ops (o :: rest) st K := by
  intro a w ⟨ok, h, r⟩ Q hQ
  refine wpList_step fun K' hK => ?_
  rw [wanted_of r hw]
  by_cases hg : g = true
  rotate_left
  · rw [if_neg hg]
    exact hK _ _ (hk _ _ ⟨ok, h, r.put (dstB_spec hd) (whenE_one hw (by simpa using hg))⟩ Q hQ)
  rw [if_pos hg]
  replace hf := hf hg
  unfold Oper.wp
  obtain ⟨cs, h1, h2, h3⟩ := callArgs_sound hg r hx (ev_sound hg r hy) hl
  rw [Array.toArray_toList] at h2 h3
  rw [run_call hf.1 ho h1, Oper.upon_enter]
  refine (hf.2 ok w _ (fun k hk => (r.mem.okb k hk).1) (r.mem.std hc) (args_rd r ha h2 h3)).mono fun e w' ⟨v, he, hbl, hr⟩ => ?_
  subst he
  refine hK _ _ (hk _ _ ⟨fresh ok w w', h, ?_⟩ Q hQ)
  have hmem := r.mem.below (ok' := fresh ok w w') hbl (fun b hb => .inl hb) (fun b hb => hb) hc.lt
  have r' : Rep C st (fresh ok w w') h a w' := ⟨hmem, r.defers, r.nt, r.pin, fun i y hy => by
    obtain ⟨h5, u, h6, h7⟩ := r.slot i y hy
    exact ⟨h5, u, h6, h7.mono (fun b hb => hbl.block b (r.mem.okb b hb).1) fun b hb => .inl hb⟩⟩
  exact r'.put (dstB_spec hd) (whenE_yes hg (hr h))
theorem run_callV (hc : CtxIs C P nt) {x : Operand} {f : FuncId} {args : Array Operand} {ts : Array TypeId} {d : Option Tmp} {ty : TypeId} {pos : String} {af : Array Edge} {gd : Option (Nat × Bool)} {y : V} {xs caps : List V} {ds : List D} {g : Bool} {res : V} {st2 : St}
    (hw : Gives (gE ops { dst := d, op := .call { callee := .value x, args := args, argTypes := ts }, type := ty, pos := pos, after := af, guard := gd } st) g)
    (hy : Gives (ev g st x) y) (hx : Gives (calleeE (some y)) (f, caps)) (hl : Gives (evL g st args.toList) xs) (ha : Gives (asDL st (xs ++ caps)) (ds, false)) (hf : g = true → FnV P f ds res) (hd : dstB nt d = true) (h2 : Gives (some (st.put d (if gd.isNone then res else .when g res))) st2) (hk : opsW C ops rest st2 K) :
    opsW C ops ({ dst := d, op := .call { callee := .value x, args := args, argTypes := ts }, type := ty, pos := pos, after := af, guard := gd } :: rest) st K := by
  obtain ⟨rfl, rfl, hok⟩ := hc
  cases h2
  exact opsW_callV hok hw rfl hy hx hl ha hf hd hk
end
end Go.Lw
/-
  CHAPTER 1's REFERENCE: numbers of ports; the normal form of an address. (WITH run_drawN.)
-/
set_option linter.unusedSimpArgs false
set_option linter.unusedVariables false
namespace Go.Proofs.YtpmfmjgnhdfakaaGreatDoor
open Go.Lw Go.RowKit
set_option maxRecDepth 100000
set_option maxHeartbeats 1000000

abbrev noZero (s : Bs) : Bs := s.dropWhile fun c => decide (c = 48)
theorem digN_snoc (t : Bs) (c : UInt8) : digN (t ++ [c]) = 10 * digN t + (c.toNat - 48) := by simp [digN]
theorem last_cases (s : Bs) : s = [] ∨ ∃ t c, s = t ++ [c] := by
  rcases List.eq_nil_or_concat s with h | ⟨t, c, h⟩
  · exact .inl h
  · exact .inr ⟨t, c, by simpa using h⟩
theorem zero_drop (s : Bs) (h : s.all isDig = true) (h0 : digN s = 0) : noZero s = [] := by
  generalize hn : s.length = n
  induction n using Nat.strongRecOn generalizing s with
  | _ n ih =>
    rcases last_cases s with rfl | ⟨t, c, rfl⟩
    · rfl
    · rw [digN_snoc] at h0
      simp only [List.all_append, List.all_cons, List.all_nil, Bool.and_true, Bool.and_eq_true] at h
      have hc : 48 ≤ c.toNat ∧ c.toNat ≤ 57 := by simpa [isDig] using h.2
      have e : c = 48 := UInt8.toNat_inj.1 (by simp; omega)
      have ht := ih t.length (by simp at hn; omega) t h.1 (by omega) rfl
      unfold noZero at ht ⊢
      rw [List.dropWhile_append, ht, e]
      rfl
theorem dec_drop (s : Bs) (h : s.all isDig = true) (h0 : digN s ≠ 0) : Lib.decDigits (digN s) = noZero s := by
  generalize hn : s.length = n
  induction n using Nat.strongRecOn generalizing s with
  | _ n ih =>
    rcases last_cases s with rfl | ⟨t, c, rfl⟩
    · exact absurd rfl h0
    · rw [digN_snoc] at h0 ⊢
      simp only [List.all_append, List.all_cons, List.all_nil, Bool.and_true, Bool.and_eq_true] at h
      have hc : 48 ≤ c.toNat ∧ c.toNat ≤ 57 := by simpa [isDig] using h.2
      have ec : UInt8.ofNat (48 + (c.toNat - 48)) = c := UInt8.toNat_inj.1 (by simp; omega)
      by_cases hz : digN t = 0
      · have ht := zero_drop t h.1 hz
        unfold noZero at ht ⊢
        have hne : ¬ c = 48 := fun e => by rw [hz, e] at h0; exact h0 rfl
        rw [List.dropWhile_append, ht, hz]
        rw [show 10 * 0 + (c.toNat - 48) = c.toNat - 48 by omega, Lib.decDigits_one (by omega), ec]
        simp [hne]
      · have ht := ih t.length (by simp at hn; omega) t h.1 hz rfl
        have hne : noZero t ≠ [] := by
          intro e
          rw [← ht, Lib.decDigits] at e
          split at e <;> simp at e
        rw [Lib.decDigits, dif_neg (by omega), show (10 * digN t + (c.toNat - 48)) / 10 = digN t by omega, show (10 * digN t + (c.toNat - 48)) % 10 = c.toNat - 48 by omega, ht, ec]
        unfold noZero at hne ⊢
        rw [List.dropWhile_append, if_neg (by simpa using hne)]
theorem digN_drop : ∀ s : Bs, digN (noZero s) = digN s
  | [] => rfl
  | c :: r => by
    unfold noZero
    by_cases h : c = 48
    · rw [List.dropWhile_cons_of_pos (by simp [h])]
      have := digN_drop r
      unfold noZero at this
      rw [this, h]
      rfl
    · rw [List.dropWhile_cons_of_neg (by simp [h])]
/-- What the reference makes of a port that is right. -/
theorem port_q {sc p : Bs} (h : p.all isDig = true) (h0 : digN p ≠ 0) : portN sc (noZero p) = if ¬ (digN p = 80 ∧ sc = [104, 116, 116, 112]) ∧ ¬ (digN p = 443 ∧ sc = [104, 116, 116, 112, 115]) then Lib.decDigits (digN p) else [] := by
  have h1 := dec_drop p h h0
  have h2 := digN_drop p
  have e80 : noZero p = [56, 48] ↔ digN p = 80 := by
    constructor
    · intro e; rw [← h2, e]; rfl
    · intro e; rw [← h1, e]; decide +kernel
  have e443 : noZero p = [52, 52, 51] ↔ digN p = 443 := by
    constructor
    · intro e; rw [← h2, e]; rfl
    · intro e; rw [← h1, e]; decide +kernel
  unfold portN
  by_cases a : digN p = 80 ∧ sc = [104, 116, 116, 112]
  · rw [if_pos (.inl ⟨a.2, e80.2 a.1⟩), if_neg (fun h => h.1 a)]
  · by_cases b : digN p = 443 ∧ sc = [104, 116, 116, 112, 115]
    · rw [if_pos (.inr ⟨b.2, e443.2 b.1⟩), if_neg (fun h => h.2 b)]
    · rw [if_neg (fun h => h.elim (fun h => a ⟨e80.1 h.2, h.1⟩) (fun h => b ⟨e443.1 h.2, h.1⟩)), if_pos ⟨a, b⟩, h1]
theorem port_none (sc : Bs) : portN sc (noZero []) = [] := by unfold portN; split <;> rfl
theorem atoi_none : FnV Tryz.prog 189 [str []] (.vtup [.d (int 0), .any]) :=
  ⟨by kernel_rfl, fun ok w vs _ hstd ha => by
    have h0 : ArgsRd w ok ([Value.string (bs [])].map D.lit) vs := ha
    obtain rfl : vs = #[.string (bs [])] := lits_rd h0
    obtain ⟨te, pe, hcell⟩ := hstd.2.2.1 4 (of_decide_eq_true (by kernel_rfl)) (by kernel_rfl)
    refine (Tryz.strconv_Atoi_err (bs []) (by simp) (by rfl) (.iface te pe) w hcell (.inr ⟨_, _, rfl⟩)).mono fun e w' ⟨N, he, _, _, hb⟩ => ⟨_, he, hb, fun h => ?_⟩
    exact .vtup _ _ (fun i => (#[Value.int .i64 0, _])[i]?.getD undef) rfl (fun i hi => by
      match i, hi with
      | 0, _ => rfl
      | 1, _ => rfl) (fun i d hd => by
      match i, hd with
      | 0, hd => cases hd; exact .d _ _ (.lit _)
      | 1, hd => cases hd; exact .any _)⟩
theorem itoa_ok (n : Nat) (hn : n ≤ 100000) : FnOk Tryz.prog 129 [int n] (str (Lib.decDigits n)) :=
  fnOk_litsB [.int .i64 n] (by kernel_rfl) fun w hs => by
    obtain ⟨t, fr, hcell⟩ := hs.2.2.2 3 (of_decide_eq_true (by kernel_rfl)) (by kernel_rfl)
    have hg : Tryz.prog.globalNamed "internal/strconv.uint64pow10" = some 3 := by kernel_rfl
    have ht : Lib.TabIs Tryz.prog w "internal/strconv.uint64pow10" .u64 Lib.pow10Tab := by
      unfold Lib.TabIs World.var?
      rw [hg]
      simp only [Option.bind_some, hcell]
      rfl
    refine (Tryz.strconv_Itoa n (by omega) (by omega) w ht).mono fun e w' ⟨he, k, os, hw⟩ => ⟨?_, ?_⟩
    · rw [he, Lib.itoa_nonneg]; rfl
    · rw [hw]; exact Lib.below_grow _ w (Nat.le_refl _) k os
end Go.Proofs.YtpmfmjgnhdfakaaGreatDoor
/-
  CHAPTER 1's REFERENCE: the normal form of an address; AddressChecksMatchSpec's own walk. (WITH run_drawN.)
-/
set_option linter.unusedSimpArgs false
set_option linter.unusedVariables false
namespace Go.Proofs.YtpmfmjgnhdfakaaGreatDoor
open Go.Lw Go.RowKit
set_option maxRecDepth 100000
set_option maxHeartbeats 2000000

theorem norm_47 {p : Bs} (h : p = [] ∨ p[0]? = some 47) : normR p = [] ∨ (normR p)[0]? = some 47 := by
  cases p with
  | nil => left; rfl
  | cons c r =>
    right
    have hc : c = 47 := by
      rcases h with h | h
      · cases h
      · simpa using h
    subst hc
    rw [normR.eq_def]
    simp only
    rw [if_neg (by decide)]
    rfl
theorem qNormalOf_ok (a : Adr) (h : chkC a = 0) : FnOk Tryz.prog 171 [adrD a] (adrD (normA a)) := by
  refine fnOk Tryz.func171 rfl (by kernel_rfl) Tryz.ntmps171 _ rfl (by simp) fun C hc => ?_
  obtain ⟨hA, hl⟩ := (chk_iff a).1 h
  have hf := chk_fits h
  have hpl := part_len a
  have hql : a.query.length ≤ 2000 := by
    by_cases e : a.query = []
    · simp [e]
    · have hq := hA.hasQ e
      have : (writeA a).length = a.scheme.length + 3 + a.host.length + (pPart a).length + (a.path.length + (qPart a).length + (fPart a).length) := by simp [writeA, behindA]; omega
      have h2 : (qPart a).length = a.query.length + 1 := by unfold qPart; rw [if_pos hq]; simp
      omega
  have hS1 := qSmall_ok a.scheme (by omega)
  have hS2 := qSmall_ok a.host (by omega)
  have hN1 := qCoded_ok a.path (by omega) (row63 hA.path)
  have hN2 := qCoded_ok a.query (by omega) hA.query
  have hnl := normR_len a.path
  have hD := qDotsA_ok (normR a.path) (norm_47 hA.slash) (by omega)
  unfold normA pathN
  rcases hA.port with hp | hp
  · have hAt : FnV Tryz.prog 189 [str a.port] (.vtup [.d (int 0), .any]) := by rw [hp]; exact atoi_none
    rw [show portN (small a.scheme) (a.port.dropWhile fun c => decide (c = 48)) = [] by rw [hp]; exact port_none _]
    generalize small a.scheme = sc at hS1 ⊢
    generalize small a.host = ho at hS2 ⊢
    generalize normR a.path = pa at hN1 hD ⊢
    generalize normR a.query = qu at hN2 ⊢
    generalize undotP pa = up at hD ⊢
    repeat' (first | (first | refine Ya ?_ | refine Yb ?_ | refine Yc ?_ | refine Yd ?_ | refine Ye ?_ | refine Yf ?_ | refine Yg ?_ | refine Yh ?_ | refine Yi ?_ | refine Yj ?_ | refine Yk ?_ | refine Yl ?_ | refine Ym ?_ | refine Yn ?_ | refine Yo ?_ | refine Yp (h := ?_) | refine Yq ?_ | refine Yr ?_ | refine Ys ?_ | refine Zr hc (hk := ?_) | refine Zd hc (hk := ?_) | (refine Zc (ht := fun hb => ?_) (hf := fun hb => ?_) <;> (try simp at hb)) | fail) | (refine run_drawF 16 hc (by kernel_rfl) rfl (by kernel_rfl) rfl (by simp; exact Gives.mk) ?_; try simp only [List.take_succ_cons, List.take_zero, List.drop_succ_cons, List.drop_zero]) | (first | refine run_callV hc (by simp; exact Gives.mk) (by simp; exact Gives.mk) (by simp; exact Gives.mk) (by simp; exact Gives.mk) (by simp; exact Gives.mk) (fun _ => hAt) (by simp) (by simp; exact Gives.mk) ?_ | fail) | (first | refine Zw hc (hf := by first | exact hS1 | exact hS2 | exact hN1 | exact hN2 | exact hD) (hk := ?_) | refine Zq hc (hf := by first | exact hS1 | exact hS2 | exact hN1 | exact hN2 | exact hD) (hk := ?_) | refine Zo hc (hk := ?_) | refine Zu hc (hk := ?_) | refine Ze hc (hk := ?_) | refine Zn hc (hk := ?_) | fail))
    all_goals try (exfalso; omega)
    · rw [if_pos hb]
      (refine Zl hc (hr := ?_))
      simp
    · rw [if_neg hb]
      (refine Zl hc (hr := ?_))
      simp
  · obtain ⟨hd1, hd2⟩ := port_digits hp
    have hd5 : a.port.length ≤ 5 := Classical.byContradiction fun e => hp (portB_no a.port (fun h => e h.2.1))
    have hnz : digN a.port ≠ 0 := fun e => hp (by rw [portB_yes a.port ⟨hd1, hd5, hd2⟩, e]; rfl)
    have hle : digN a.port ≤ 100000 := by
      have := portB_yes a.port ⟨hd1, hd5, hd2⟩
      rcases Nat.lt_or_ge 65535 (digN a.port) with h | h
      · rw [if_neg (by omega)] at this; exact absurd this hp
      · omega
    have hAt := atoi_ok a.port hd1 hd5 hd2
    have hIt := itoa_ok (digN a.port) hle
    have hPo := port_q (sc := small a.scheme) hd2 hnz
    unfold noZero at hPo
    rw [hPo]
    generalize digN a.port = pn at hAt hIt hnz hle ⊢
    generalize Lib.decDigits pn = pd at hIt ⊢
    generalize small a.scheme = sc at hS1 ⊢
    generalize small a.host = ho at hS2 ⊢
    generalize normR a.path = pa at hN1 hD ⊢
    generalize normR a.query = qu at hN2 ⊢
    generalize undotP pa = up at hD ⊢
    repeat' (first | (first | refine Ya ?_ | refine Yb ?_ | refine Yc ?_ | refine Yd ?_ | refine Ye ?_ | refine Yf ?_ | refine Yg ?_ | refine Yh ?_ | refine Yi ?_ | refine Yj ?_ | refine Yk ?_ | refine Yl ?_ | refine Ym ?_ | refine Yn ?_ | refine Yo ?_ | refine Yp (h := ?_) | refine Yq ?_ | refine Yr ?_ | refine Ys ?_ | refine Zr hc (hk := ?_) | refine Zd hc (hk := ?_) | (refine Zc (ht := fun hb => ?_) (hf := fun hb => ?_) <;> (try simp at hb)) | fail) | (refine run_drawF 16 hc (by kernel_rfl) rfl (by kernel_rfl) rfl (by simp; exact Gives.mk) ?_; try simp only [List.take_succ_cons, List.take_zero, List.drop_succ_cons, List.drop_zero]) | (first | refine Zw hc (hf := by first | exact hS1 | exact hS2 | exact hN1 | exact hN2 | exact hD | exact hAt | exact hIt) (hk := ?_) | refine Zq hc (hf := by first | exact hS1 | exact hS2 | exact hN1 | exact hN2 | exact hD | exact hAt | exact hIt) (hk := ?_) | refine Zo hc (hk := ?_) | refine Zu hc (hk := ?_) | refine Ze hc (hk := ?_) | refine Zn hc (hk := ?_) | fail))
    all_goals try (exfalso; omega)
    · rename_i k
      rw [if_pos ⟨fun e => k.1.2.elim (fun h => h (by omega)) (fun h => h e.2), fun e => k.2.elim (fun h => h (by omega)) (fun h => h e.2)⟩, if_pos hb]
      (refine Zl hc (hr := ?_))
      simp
    · rename_i k
      rw [if_pos ⟨fun e => k.1.2.elim (fun h => h (by omega)) (fun h => h e.2), fun e => k.2.elim (fun h => h (by omega)) (fun h => h e.2)⟩, if_neg hb]
      (refine Zl hc (hr := ?_))
      simp
    · rename_i k
      rw [if_neg (fun e => by
        have k2 := k hnz (by
          by_cases h : pn = 80
          · exact .inr (fun h2 => e.1 ⟨h, h2⟩)
          · exact .inl (by omega))
        exact e.2 ⟨by omega, k2.2⟩), if_pos hb]
      (refine Zl hc (hr := ?_))
      simp
    · rename_i k
      rw [if_neg (fun e => by
        have k2 := k hnz (by
          by_cases h : pn = 80
          · exact .inr (fun h2 => e.1 ⟨h, h2⟩)
          · exact .inl (by omega))
        exact e.2 ⟨by omega, k2.2⟩), if_neg hb]
      (refine Zl hc (hr := ?_))
      simp
end Go.Proofs.YtpmfmjgnhdfakaaGreatDoor
