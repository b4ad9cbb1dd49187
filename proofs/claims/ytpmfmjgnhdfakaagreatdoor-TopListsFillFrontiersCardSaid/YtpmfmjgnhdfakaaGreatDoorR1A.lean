/-
  CHAPTER 1's REFERENCE: bytes, labels, hosts. (WITH run_drawN.)
-/
import Derived.Test.YtpmfmjgnhdfakaaGreatDoorAdW
set_option linter.unusedSimpArgs false
set_option linter.unusedVariables false
namespace Go.Proofs.YtpmfmjgnhdfakaaGreatDoor
open Go.Lw Go.RowKit
set_option maxRecDepth 100000
set_option maxHeartbeats 1000000

theorem qLetter_ok (c : UInt8) : FnOk Tryz.prog 198 [u8 c] (tru (isLet c)) := by
  refine fnOk Tryz.func198 rfl (by kernel_rfl) Tryz.ntmps198 _ rfl (by simp) fun C hc => ?_
  repeat' (first | refine Ya ?_ | refine Yb ?_ | refine Yc ?_ | refine Yd ?_ | refine Ye ?_ | refine Yf ?_ | refine Yg ?_ | refine Yh ?_ | refine Yi ?_ | refine Yj ?_ | refine Yk ?_ | refine Yl ?_ | refine Ym ?_ | refine Yn ?_ | refine Yo ?_ | refine Yp (h := ?_) | refine Yq ?_ | refine Yr ?_ | refine Ys ?_ | refine Zr hc (hk := ?_) | refine Zd hc (hk := ?_) | (refine Zc (ht := fun hb => ?_) (hf := fun hb => ?_) <;> (try simp at hb)) | fail)
  (refine Zl hc (hr := ?_))
  refine res_bool ?_
  rw [Bool.eq_iff_iff]; simp [isLet, isLo, isUp]; omega
theorem qDigit_ok (c : UInt8) : FnOk Tryz.prog 188 [u8 c] (tru (isDig c)) := by
  refine fnOk Tryz.func188 rfl (by kernel_rfl) Tryz.ntmps188 _ rfl (by simp) fun C hc => ?_
  repeat' (first | refine Ya ?_ | refine Yb ?_ | refine Yc ?_ | refine Yd ?_ | refine Ye ?_ | refine Yf ?_ | refine Yg ?_ | refine Yh ?_ | refine Yi ?_ | refine Yj ?_ | refine Yk ?_ | refine Yl ?_ | refine Ym ?_ | refine Yn ?_ | refine Yo ?_ | refine Yp (h := ?_) | refine Yq ?_ | refine Yr ?_ | refine Ys ?_ | refine Zr hc (hk := ?_) | refine Zd hc (hk := ?_) | (refine Zc (ht := fun hb => ?_) (hf := fun hb => ?_) <;> (try simp at hb)) | fail)
  (refine Zl hc (hr := ?_))
  refine res_bool ?_
  rw [Bool.eq_iff_iff]; simp [isDig]; omega
theorem qSmall_ok (l : Bs) (hm : l.length ≤ 9223372036854775807) : FnOk Tryz.prog 186 [str l] (str (small l)) := by
  refine fnOk Tryz.func186 rfl (by kernel_rfl) Tryz.ntmps186 _ rfl (by simp) fun C hc => ?_
  repeat' (first | refine Ya ?_ | refine Yb ?_ | refine Yc ?_ | refine Yd ?_ | refine Ye ?_ | refine Yf ?_ | refine Yg ?_ | refine Yh ?_ | refine Yi ?_ | refine Yj ?_ | refine Yk ?_ | refine Yl ?_ | refine Ym ?_ | refine Yn ?_ | refine Yo ?_ | refine Yp (h := ?_) | refine Yq ?_ | refine Yr ?_ | refine Ys ?_ | refine Zr hc (hk := ?_) | refine Zd hc (hk := ?_) | (refine Zc (ht := fun hb => ?_) (hf := fun hb => ?_) <;> (try simp at hb)) | fail)
  refine ewp_loop (fun x : Nat × Bs => ⟨[(3, .os 6 x.2.length), (4, .d (int x.1))], [(6, .own 5 1 (false, [.lit (.int .u8 0)]) (x.2.map byteRow))]⟩) (fun x => x.1 ≤ l.length ∧ x.2 = part low l x.1) (fun x => l.length - x.1) (0, l) ⟨by simp, by simp [part]⟩ (run_keep [3, 4] [6] (by simp; exact Gives.mk) (by simp; exact Gives.mk)) ?_
  rintro ⟨j, m⟩ ⟨hj, hm1⟩
  simp only at hj hm1 ⊢
  have hml : m.length = l.length := by rw [hm1]; exact part_length low l j hj
  have ha : m[j]?.getD 0 = l[j]?.getD 0 := by rw [hm1]; exact part_at low l j hj
  repeat' (first | (first | refine Ya ?_ | refine Yb ?_ | refine Yc ?_ | refine Yd ?_ | refine Ye ?_ | refine Yf ?_ | refine Yg ?_ | refine Yh ?_ | refine Yi ?_ | refine Yj ?_ | refine Yk ?_ | refine Yl ?_ | refine Ym ?_ | refine Yn ?_ | refine Yo ?_ | refine Yp (h := ?_) | refine Yq ?_ | refine Yr ?_ | refine Ys ?_ | refine Zr hc (hk := ?_) | refine Zd hc (hk := ?_) | (refine Zc (ht := fun hb => ?_) (hf := fun hb => ?_) <;> (try simp at hb)) | fail) | (first | refine Zo hc (hk := ?_) | refine Zu hc (hk := ?_) | refine Ze hc (hk := ?_) | refine Zn hc (hk := ?_) | fail))
  · refine ⟨(j + 1, m.set j (low (l[j]?.getD 0))), ⟨by simp; omega, ?_⟩, by simp; omega, run_back [3, 4] [6] (by simp; exact Gives.mk) (by simp; exact Gives.mk) (by rw [ha] at hb; have := low_up _ hb; simp [ha]; rw [show ((l[j]?.getD 0).toNat : Int) + 32 = ((low (l[j]?.getD 0)).toNat : Int) by omega])⟩
    simp only
    rw [hm1, part_set low l j (by omega)]
  · refine ⟨(j + 1, m), ⟨by simp; omega, ?_⟩, by simp; omega, run_back [3, 4] [6] (by simp; exact Gives.mk) (by simp; exact Gives.mk) (by simp)⟩
    simp only
    rw [hm1]
    refine part_same low l j (by omega) ?_
    rw [ha] at hb
    unfold low
    rw [if_neg]
    simp only [isUp, Bool.and_eq_true, decide_eq_true_eq]
    omega
  · (refine Zl hc (hr := ?_))
    simp [hm1, part, small, List.take_of_length_le (show l.length ≤ j by omega), List.drop_of_length_le (show l.length ≤ j by omega)]
theorem qLabel_ok (s : Bs) (hm : s.length ≤ 9223372036854775807) : FnOk Tryz.prog 187 [str s] (tru (isLab s)) := by
  refine fnOk Tryz.func187 rfl (by kernel_rfl) Tryz.ntmps187 _ rfl (by simp) fun C hc => ?_
  have hiff := isLab_iff s
  by_cases h0 : s = []
  · have : isLab s = false := by rw [h0]; rfl
    rw [this]
    subst h0
    repeat' (first | (first | refine Ya ?_ | refine Yb ?_ | refine Yc ?_ | refine Yd ?_ | refine Ye ?_ | refine Yf ?_ | refine Yg ?_ | refine Yh ?_ | refine Yi ?_ | refine Yj ?_ | refine Yk ?_ | refine Yl ?_ | refine Ym ?_ | refine Yn ?_ | refine Yo ?_ | refine Yp (h := ?_) | refine Yq ?_ | refine Yr ?_ | refine Ys ?_ | refine Zr hc (hk := ?_) | refine Zd hc (hk := ?_) | (refine Zc (ht := fun hb => ?_) (hf := fun hb => ?_) <;> (try simp at hb)) | fail) | (first | refine Zo hc (hk := ?_) | refine Zu hc (hk := ?_) | refine Ze hc (hk := ?_) | refine Zn hc (hk := ?_) | fail))
    all_goals try contradiction
    (refine Zl hc (hr := ?_))
    simp
  have hpos : 0 < s.length := List.length_pos_iff.2 h0
  repeat' (first | (first | refine Ya ?_ | refine Yb ?_ | refine Yc ?_ | refine Yd ?_ | refine Ye ?_ | refine Yf ?_ | refine Yg ?_ | refine Yh ?_ | refine Yi ?_ | refine Yj ?_ | refine Yk ?_ | refine Yl ?_ | refine Ym ?_ | refine Yn ?_ | refine Yo ?_ | refine Yp (h := ?_) | refine Yq ?_ | refine Yr ?_ | refine Ys ?_ | refine Zr hc (hk := ?_) | refine Zd hc (hk := ?_) | (refine Zc (ht := fun hb => ?_) (hf := fun hb => ?_) <;> (try simp at hb)) | fail) | (first | refine Zo hc (hk := ?_) | refine Zu hc (hk := ?_) | refine Ze hc (hk := ?_) | refine Zn hc (hk := ?_) | fail))
  · have : isLab s = false := by
      rw [← Bool.not_eq_true]
      intro e
      have h1 := hiff.1 e
      rcases hb with ((h | h) | h) | h
      · exact h0 h
      · omega
      · omega
      · omega
    rw [this]
    (refine Zl hc (hr := ?_))
    simp
  refine ewp_loop (fun j : Nat => ⟨[(0, .d (str s)), (3, .d (int j))], []⟩) (fun j => j ≤ s.length ∧ (s.take j).all labB = true) (fun j => s.length - j) 0 (by simp) (run_keep [0, 3] [] (by simp; exact Gives.mk) (by simp; exact Gives.mk)) ?_
  rintro j ⟨h1, h2⟩
  have hn := fun h => all_next labB s 0 j h
  have hno := fun h => all_not labB s 0 j h
  have hL : ∀ c : UInt8, labB c = (isLet c || isDig c || decide (c.toNat = 45)) := fun _ => rfl
  repeat' (first | (first | refine Ya ?_ | refine Yb ?_ | refine Yc ?_ | refine Yd ?_ | refine Ye ?_ | refine Yf ?_ | refine Yg ?_ | refine Yh ?_ | refine Yi ?_ | refine Yj ?_ | refine Yk ?_ | refine Yl ?_ | refine Ym ?_ | refine Yn ?_ | refine Yo ?_ | refine Yp (h := ?_) | refine Yq ?_ | refine Yr ?_ | refine Ys ?_ | refine Zr hc (hk := ?_) | refine Zd hc (hk := ?_) | (refine Zc (ht := fun hb => ?_) (hf := fun hb => ?_) <;> (try simp at hb)) | fail) | (first | refine Zw hc (hf := by first | exact qLetter_ok _ | exact qDigit_ok _) (hk := ?_) | refine Zq hc (hf := by first | exact qLetter_ok _ | exact qDigit_ok _) (hk := ?_) | refine Zo hc (hk := ?_) | refine Zu hc (hk := ?_) | refine Ze hc (hk := ?_) | refine Zn hc (hk := ?_) | fail))
  · rename_i hlt
    have : isLab s = false := by
      rw [← Bool.not_eq_true]
      intro e
      have h3 := (hiff.1 e).2.2.2.2
      rw [hno (by omega) (by rw [hL, hb.1.1, hb.1.2]; simp; omega)] at h3
      cases h3
    rw [this]
    (refine Zl hc (hr := ?_))
    simp
  · rename_i hlt
    refine ⟨j + 1, ⟨by omega, ?_⟩, by omega, run_back [0, 3] [] (by simp; exact Gives.mk) (by simp; exact Gives.mk) (by simp)⟩
    rw [hn (by omega), h2, hL]
    cases h3 : isLet (s[j]?.getD 0)
    · cases h4 : isDig (s[j]?.getD 0)
      · have := hb h3 h4
        simp; omega
      · simp
    · rfl
  · have : isLab s = true := by
      rename_i hne
      refine hiff.2 ⟨by omega, by omega, by omega, by omega, ?_⟩
      rw [List.take_of_length_le (by omega)] at h2
      exact h2
    rw [this]
    (refine Zl hc (hr := ?_))
    simp
theorem qHost_ok (s : Bs) (hm : s.length ≤ 9223372036854775807) : FnOk Tryz.prog 166 [str s] (tru (isHostB s)) := by
  refine fnOk Tryz.func166 rfl (by kernel_rfl) Tryz.ntmps166 _ rfl (by simp) fun C hc => ?_
  by_cases hlen : s.length ≤ 253
  rotate_left
  · have : isHostB s = false := by simp [isHostB, hlen]
    rw [this]
    repeat' (first | (first | refine Ya ?_ | refine Yb ?_ | refine Yc ?_ | refine Yd ?_ | refine Ye ?_ | refine Yf ?_ | refine Yg ?_ | refine Yh ?_ | refine Yi ?_ | refine Yj ?_ | refine Yk ?_ | refine Yl ?_ | refine Ym ?_ | refine Yn ?_ | refine Yo ?_ | refine Yp (h := ?_) | refine Yq ?_ | refine Yr ?_ | refine Ys ?_ | refine Zr hc (hk := ?_) | refine Zd hc (hk := ?_) | (refine Zc (ht := fun hb => ?_) (hf := fun hb => ?_) <;> (try simp at hb)) | fail) | (first | refine Zo hc (hk := ?_) | refine Zu hc (hk := ?_) | refine Ze hc (hk := ?_) | refine Zn hc (hk := ?_) | fail))
    · (refine Zl hc (hr := ?_))
      simp
    · exfalso; omega
  have e0 : isHostB s = (Lib.split s [46]).all isLab := by simp [isHostB, hlen]
  have hsp := split_ok s 46 (by omega)
  have hsl := split_len s 46
  have hso := split_offs s 46
  rw [e0]
  generalize Lib.split s [46] = L at hsp hsl hso
  repeat' (first | (first | refine Ya ?_ | refine Yb ?_ | refine Yc ?_ | refine Yd ?_ | refine Ye ?_ | refine Yf ?_ | refine Yg ?_ | refine Yh ?_ | refine Yi ?_ | refine Yj ?_ | refine Yk ?_ | refine Yl ?_ | refine Ym ?_ | refine Yn ?_ | refine Yo ?_ | refine Yp (h := ?_) | refine Yq ?_ | refine Yr ?_ | refine Ys ?_ | refine Zr hc (hk := ?_) | refine Zd hc (hk := ?_) | (refine Zc (ht := fun hb => ?_) (hf := fun hb => ?_) <;> (try simp at hb)) | fail) | (first | refine Zw hc (hf := by exact hsp) (hk := ?_) | refine Zq hc (hf := by exact hsp) (hk := ?_) | refine Zo hc (hk := ?_) | refine Zu hc (hk := ?_) | refine Ze hc (hk := ?_) | refine Zn hc (hk := ?_) | fail))
  · exfalso; omega
  refine ewp_loop (fun j : Nat => ⟨[(3, .d (strSl L)), (4, .d (int j))], []⟩) (fun j => j ≤ L.length ∧ (L.take j).all isLab = true) (fun j => L.length - j) 0 (by simp) (run_keep [3, 4] [] (by simp; exact Gives.mk) (by simp; exact Gives.mk)) ?_
  rintro j ⟨h1, h2⟩
  have hlab := qLabel_ok (L[j]?.getD [])
  have hso := hso j
  have hn := fun h => all_next isLab L [] j h
  have hno := fun h => all_not isLab L [] j h
  repeat' (first | (first | refine Ya ?_ | refine Yb ?_ | refine Yc ?_ | refine Yd ?_ | refine Ye ?_ | refine Yf ?_ | refine Yg ?_ | refine Yh ?_ | refine Yi ?_ | refine Yj ?_ | refine Yk ?_ | refine Yl ?_ | refine Ym ?_ | refine Yn ?_ | refine Yo ?_ | refine Yp (h := ?_) | refine Yq ?_ | refine Yr ?_ | refine Ys ?_ | refine Zr hc (hk := ?_) | refine Zd hc (hk := ?_) | (refine Zc (ht := fun hb => ?_) (hf := fun hb => ?_) <;> (try simp at hb)) | fail) | (first | refine Zw hc (hf := by exact hlab (by omega)) (hk := ?_) | refine Zq hc (hf := by exact hlab (by omega)) (hk := ?_) | refine Zo hc (hk := ?_) | refine Zu hc (hk := ?_) | refine Ze hc (hk := ?_) | refine Zn hc (hk := ?_) | fail))
  · rw [hno (by omega) hb]
    (refine Zl hc (hr := ?_))
    simp
  · exact ⟨j + 1, ⟨by omega, by rw [hn (by omega), h2, hb]; rfl⟩, by omega, run_back [3, 4] [] (by simp; exact Gives.mk) (by simp; exact Gives.mk) (by simp)⟩
  · rw [List.take_of_length_le (by omega)] at h2
    rw [h2]
    (refine Zl hc (hr := ?_))
    simp
end Go.Proofs.YtpmfmjgnhdfakaaGreatDoor
