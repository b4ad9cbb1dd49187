/-
  ADDRESS: bytes, labels, hosts, ports, rows. (WITH run_drawN.)
-/
import Derived.Test.YtpmfmjgnhdfakaaGreatDoorAdK
import Derived.Shelf.Strings.SlTrimAscii
import Derived.Test.YtpmfmjgnhdfakaaGreatDoorLwPh
set_option linter.unusedSimpArgs false
set_option linter.unusedVariables false
namespace Go.Proofs.YtpmfmjgnhdfakaaGreatDoor
open Go.Lw Go.RowKit
set_option maxRecDepth 100000
set_option maxHeartbeats 1000000

theorem adLetter_ok (c : UInt8) : FnOk Tryz.prog 113 [u8 c] (tru (isLet c)) := by
  refine fnOk Tryz.func113 rfl (by kernel_rfl) Tryz.ntmps113 _ rfl (by simp) fun C hc => ?_
  repeat' (first | refine Ya ?_ | refine Yb ?_ | refine Yc ?_ | refine Yd ?_ | refine Ye ?_ | refine Yf ?_ | refine Yg ?_ | refine Yh ?_ | refine Yi ?_ | refine Yj ?_ | refine Yk ?_ | refine Yl ?_ | refine Ym ?_ | refine Yn ?_ | refine Yo ?_ | refine Yp (h := ?_) | refine Yq ?_ | refine Yr ?_ | refine Ys ?_ | refine Zr hc (hk := ?_) | refine Zd hc (hk := ?_) | (refine Zc (ht := fun hb => ?_) (hf := fun hb => ?_) <;> (try simp at hb)) | fail)
  (refine Zl hc (hr := ?_))
  refine res_bool ?_
  rw [Bool.eq_iff_iff]; simp [isLet, isLo, isUp]; omega
theorem adDigit_ok (c : UInt8) : FnOk Tryz.prog 65 [u8 c] (tru (isDig c)) := by
  refine fnOk Tryz.func65 rfl (by kernel_rfl) Tryz.ntmps65 _ rfl (by simp) fun C hc => ?_
  repeat' (first | refine Ya ?_ | refine Yb ?_ | refine Yc ?_ | refine Yd ?_ | refine Ye ?_ | refine Yf ?_ | refine Yg ?_ | refine Yh ?_ | refine Yi ?_ | refine Yj ?_ | refine Yk ?_ | refine Yl ?_ | refine Ym ?_ | refine Yn ?_ | refine Yo ?_ | refine Yp (h := ?_) | refine Yq ?_ | refine Yr ?_ | refine Ys ?_ | refine Zr hc (hk := ?_) | refine Zd hc (hk := ?_) | (refine Zc (ht := fun hb => ?_) (hf := fun hb => ?_) <;> (try simp at hb)) | fail)
  (refine Zl hc (hr := ?_))
  refine res_bool ?_
  rw [Bool.eq_iff_iff]; simp [isDig]; omega
theorem adHex_ok (c : UInt8) : FnOk Tryz.prog 135 [u8 c] (tru (isHexB c)) := by
  refine fnOk Tryz.func135 rfl (by kernel_rfl) Tryz.ntmps135 _ rfl (by simp) fun C hc => ?_
  repeat' (first | (first | refine Ya ?_ | refine Yb ?_ | refine Yc ?_ | refine Yd ?_ | refine Ye ?_ | refine Yf ?_ | refine Yg ?_ | refine Yh ?_ | refine Yi ?_ | refine Yj ?_ | refine Yk ?_ | refine Yl ?_ | refine Ym ?_ | refine Yn ?_ | refine Yo ?_ | refine Yp (h := ?_) | refine Yq ?_ | refine Yr ?_ | refine Ys ?_ | refine Zr hc (hk := ?_) | refine Zd hc (hk := ?_) | (refine Zc (ht := fun hb => ?_) (hf := fun hb => ?_) <;> (try simp at hb)) | fail) | (first | refine Zw hc (hf := by exact adDigit_ok _) (hk := ?_) | refine Zq hc (hf := by exact adDigit_ok _) (hk := ?_) | refine Zo hc (hk := ?_) | refine Zu hc (hk := ?_) | refine Ze hc (hk := ?_) | refine Zn hc (hk := ?_) | fail))
  (refine Zl hc (hr := ?_))
  refine res_bool ?_
  rw [Bool.eq_iff_iff]; cases h : isDig c <;> simp [isHexB, h] <;> omega

/-! Labels and hosts. -/
theorem all_next {α : Type} (p : α → Bool) (s : List α) (d : α) (j : Nat) (h : j < s.length) : (s.take (j + 1)).all p = ((s.take j).all p && p (s[j]?.getD d)) := by
  rw [List.take_add_one, List.all_append]; simp [h]
theorem all_not {α : Type} (p : α → Bool) (s : List α) (d : α) (j : Nat) (h : j < s.length) (hp : p (s[j]?.getD d) = false) : s.all p = false := by
  rw [List.all_eq_false]
  exact ⟨s[j], List.getElem_mem h, by simpa [h] using hp⟩
theorem isLab_iff (s : Bs) : isLab s = true ↔ (1 ≤ s.length ∧ s.length ≤ 63 ∧ (s[0]?.getD 0).toNat ≠ 45 ∧ (s[s.length - 1]?.getD 0).toNat ≠ 45 ∧ s.all labB = true) := by
  simp [isLab, and_assoc]
theorem isLabel_ok (s : Bs) (hm : s.length ≤ 9223372036854775807) : FnOk Tryz.prog 100 [str s] (tru (isLab s)) := by
  refine fnOk Tryz.func100 rfl (by kernel_rfl) Tryz.ntmps100 _ rfl (by simp) fun C hc => ?_
  have hiff := isLab_iff s
  repeat' (first | (first | refine Ya ?_ | refine Yb ?_ | refine Yc ?_ | refine Yd ?_ | refine Ye ?_ | refine Yf ?_ | refine Yg ?_ | refine Yh ?_ | refine Yi ?_ | refine Yj ?_ | refine Yk ?_ | refine Yl ?_ | refine Ym ?_ | refine Yn ?_ | refine Yo ?_ | refine Yp (h := ?_) | refine Yq ?_ | refine Yr ?_ | refine Ys ?_ | refine Zr hc (hk := ?_) | refine Zd hc (hk := ?_) | (refine Zc (ht := fun hb => ?_) (hf := fun hb => ?_) <;> (try simp at hb)) | fail) | (first | refine Zo hc (hk := ?_) | refine Zu hc (hk := ?_) | refine Ze hc (hk := ?_) | refine Zn hc (hk := ?_) | fail))
  · have : isLab s = false := by
      rw [← Bool.not_eq_true]
      intro e
      have := hiff.1 e
      omega
    rw [this]
    (refine Zl hc (hr := ?_))
    simp
  refine ewp_loop (fun j : Nat => ⟨[(0, .d (str s)), (26, .d (int s.length)), (27, .d (int j))], []⟩) (fun j => j ≤ s.length ∧ (s.take j).all labB = true) (fun j => s.length - j) 0 (by simp) (run_keep [0, 26, 27] [] (by simp; exact Gives.mk) (by simp; exact Gives.mk)) ?_
  rintro j ⟨h1, h2⟩
  have hn := fun h => all_next labB s 0 j h
  have hno := fun h => all_not labB s 0 j h
  have hL : ∀ c : UInt8, labB c = (isLet c || isDig c || decide (c.toNat = 45)) := fun _ => rfl
  repeat' (first | (first | refine Ya ?_ | refine Yb ?_ | refine Yc ?_ | refine Yd ?_ | refine Ye ?_ | refine Yf ?_ | refine Yg ?_ | refine Yh ?_ | refine Yi ?_ | refine Yj ?_ | refine Yk ?_ | refine Yl ?_ | refine Ym ?_ | refine Yn ?_ | refine Yo ?_ | refine Yp (h := ?_) | refine Yq ?_ | refine Yr ?_ | refine Ys ?_ | refine Zr hc (hk := ?_) | refine Zd hc (hk := ?_) | (refine Zc (ht := fun hb => ?_) (hf := fun hb => ?_) <;> (try simp at hb)) | fail) | (first | refine Zw hc (hf := by first | exact adLetter_ok _ | exact adDigit_ok _) (hk := ?_) | refine Zq hc (hf := by first | exact adLetter_ok _ | exact adDigit_ok _) (hk := ?_) | refine Zo hc (hk := ?_) | refine Zu hc (hk := ?_) | refine Ze hc (hk := ?_) | refine Zn hc (hk := ?_) | fail))
  · rename_i hlt
    have : isLab s = false := by
      rw [← Bool.not_eq_true]
      intro e
      have h3 := (hiff.1 e).2.2.2.2
      rw [hno (by omega) (by rw [hL, hb.1.1, hb.1.2]; simp; omega)] at h3
      cases h3
    rw [this]
    (refine Zl hc (hr := ?_))
    simp
  · rename_i hlt
    refine ⟨j + 1, ⟨by omega, ?_⟩, by omega, run_back [0, 26, 27] [] (by simp; exact Gives.mk) (by simp; exact Gives.mk) (by simp)⟩
    rw [hn (by omega), h2, hL]
    cases h3 : isLet (s[j]?.getD 0)
    · cases h4 : isDig (s[j]?.getD 0)
      · have := hb h3 h4
        simp; omega
      · simp
    · rfl
  · have : isLab s = true := by
      refine hiff.2 ⟨by omega, by omega, by omega, by omega, ?_⟩
      rw [List.take_of_length_le (by omega)] at h2
      exact h2
    rw [this]
    (refine Zl hc (hr := ?_))
    simp
theorem isHost_ok (s : Bs) (hm : s.length ≤ 9223372036854775807) : FnOk Tryz.prog 50 [str s] (tru (isHostB s)) := by
  refine fnOk Tryz.func50 rfl (by kernel_rfl) Tryz.ntmps50 _ rfl (by simp) fun C hc => ?_
  by_cases hlen : s.length ≤ 253
  rotate_left
  · have : isHostB s = false := by simp [isHostB, hlen]
    rw [this]
    repeat' (first | (first | refine Ya ?_ | refine Yb ?_ | refine Yc ?_ | refine Yd ?_ | refine Ye ?_ | refine Yf ?_ | refine Yg ?_ | refine Yh ?_ | refine Yi ?_ | refine Yj ?_ | refine Yk ?_ | refine Yl ?_ | refine Ym ?_ | refine Yn ?_ | refine Yo ?_ | refine Yp (h := ?_) | refine Yq ?_ | refine Yr ?_ | refine Ys ?_ | refine Zr hc (hk := ?_) | refine Zd hc (hk := ?_) | (refine Zc (ht := fun hb => ?_) (hf := fun hb => ?_) <;> (try simp at hb)) | fail) | (first | refine Zo hc (hk := ?_) | refine Zu hc (hk := ?_) | refine Ze hc (hk := ?_) | refine Zn hc (hk := ?_) | fail))
    · (refine Zl hc (hr := ?_))
      simp
    · exfalso; omega
  have e0 : isHostB s = (Lib.split s [46]).all isLab := by simp [isHostB, hlen]
  have hsp := split_ok s 46 (by omega)
  have hsl := split_len s 46
  have hso := split_offs s 46
  rw [e0]
  generalize Lib.split s [46] = L at hsp hsl hso
  repeat' (first | (first | refine Ya ?_ | refine Yb ?_ | refine Yc ?_ | refine Yd ?_ | refine Ye ?_ | refine Yf ?_ | refine Yg ?_ | refine Yh ?_ | refine Yi ?_ | refine Yj ?_ | refine Yk ?_ | refine Yl ?_ | refine Ym ?_ | refine Yn ?_ | refine Yo ?_ | refine Yp (h := ?_) | refine Yq ?_ | refine Yr ?_ | refine Ys ?_ | refine Zr hc (hk := ?_) | refine Zd hc (hk := ?_) | (refine Zc (ht := fun hb => ?_) (hf := fun hb => ?_) <;> (try simp at hb)) | fail) | (first | refine Zw hc (hf := by exact hsp) (hk := ?_) | refine Zq hc (hf := by exact hsp) (hk := ?_) | refine Zo hc (hk := ?_) | refine Zu hc (hk := ?_) | refine Ze hc (hk := ?_) | refine Zn hc (hk := ?_) | fail))
  · exfalso; omega
  refine ewp_loop (fun j : Nat => ⟨[(9, .d (strSl L)), (10, .d (int L.length)), (11, .d (int j))], []⟩) (fun j => j ≤ L.length ∧ (L.take j).all isLab = true) (fun j => L.length - j) 0 (by simp) (run_keep [9, 10, 11] [] (by simp; exact Gives.mk) (by simp; exact Gives.mk)) ?_
  rintro j ⟨h1, h2⟩
  have hlab := isLabel_ok (L[j]?.getD [])
  have hso := hso j
  have hn := fun h => all_next isLab L [] j h
  have hno := fun h => all_not isLab L [] j h
  repeat' (first | (first | refine Ya ?_ | refine Yb ?_ | refine Yc ?_ | refine Yd ?_ | refine Ye ?_ | refine Yf ?_ | refine Yg ?_ | refine Yh ?_ | refine Yi ?_ | refine Yj ?_ | refine Yk ?_ | refine Yl ?_ | refine Ym ?_ | refine Yn ?_ | refine Yo ?_ | refine Yp (h := ?_) | refine Yq ?_ | refine Yr ?_ | refine Ys ?_ | refine Zr hc (hk := ?_) | refine Zd hc (hk := ?_) | (refine Zc (ht := fun hb => ?_) (hf := fun hb => ?_) <;> (try simp at hb)) | fail) | (first | refine Zw hc (hf := by exact hlab (by omega)) (hk := ?_) | refine Zq hc (hf := by exact hlab (by omega)) (hk := ?_) | refine Zo hc (hk := ?_) | refine Zu hc (hk := ?_) | refine Ze hc (hk := ?_) | refine Zn hc (hk := ?_) | fail))
  · rw [hno (by omega) hb]
    (refine Zl hc (hr := ?_))
    simp
  · exact ⟨j + 1, ⟨by omega, by rw [hn (by omega), h2, hb]; rfl⟩, by omega, run_back [9, 10, 11] [] (by simp; exact Gives.mk) (by simp; exact Gives.mk) (by simp)⟩
  · rw [List.take_of_length_le (by omega)] at h2
    rw [h2]
    (refine Zl hc (hr := ?_))
    simp
/-! Ports. -/
theorem dropWhile_all {p : UInt8 → Bool} : ∀ l : Bs, l.dropWhile p = [] ↔ l.all p = true
  | [] => by simp
  | c :: l => by
    rw [List.dropWhile_cons, List.all_cons]
    cases h : p c
    · simp
    · simpa using dropWhile_all l
theorem dropWhile_twice {p : UInt8 → Bool} : ∀ l : Bs, (l.dropWhile p).all p = l.all p
  | [] => by simp
  | c :: l => by
    rw [List.dropWhile_cons]
    cases h : p c
    · simp [h]
    · simpa [h] using dropWhile_twice l
theorem digits_has (c : UInt8) : ([48, 49, 50, 51, 52, 53, 54, 55, 56, 57] : Bs).contains c = isDig c := by
  rw [Bool.eq_iff_iff]
  simp only [isDig, List.contains_cons, List.contains_nil, Bool.or_false, Bool.or_eq_true, beq_iff_eq, Bool.and_eq_true, decide_eq_true_eq, ← UInt8.toNat_inj]
  simp
  omega
theorem trimS_digits (s : Bs) : Lib.trimS s [48, 49, 50, 51, 52, 53, 54, 55, 56, 57] = [] ↔ s.all isDig = true := by
  unfold Lib.trimS Lib.trimLeftS Lib.trimRightS
  rw [dropWhile_all, List.all_reverse, dropWhile_twice, List.all_reverse]
  rw [show (fun x => ([48, 49, 50, 51, 52, 53, 54, 55, 56, 57] : Bs).contains x) = isDig from funext digits_has]
theorem trim_ok (s : Bs) (cs : Bs) (hs : s.length ≤ 9223372036854775807) (hcs : cs.length < 4294967281) (ha : cs.all (fun b => decide (b.toNat < 128)) = true) : FnOk Tryz.prog 101 [str s, str cs] (str (Lib.trimS s cs)) :=
  fnOk_litsB [.string (bs s), .string (bs cs)] (by kernel_rfl) fun w _ => by
    have h : Calls Tryz.prog 101 #[.string (bs s), .string (bs cs)] w (fun e w' => e = .returned (.string ⟨(Lib.trimS (bs s).data.toList (bs cs).data.toList).toArray⟩) ∧ Below w.heap.size w w') := Any.strings_Trim_laid Tryz.lays160 (by kernel_rfl) (bs s) (bs cs) w (by simpa using hs) (by simpa using hcs) (ascii_of_all (by simpa using ha))
    simpa using h
theorem portOf_ok (s : Bs) (hm : s.length ≤ 9223372036854775807) : FnOk Tryz.prog 51 [str s] (int (portB s)) := by
  refine fnOk Tryz.func51 rfl (by kernel_rfl) Tryz.ntmps51 _ rfl (by simp) fun C hc => ?_
  have htr := trim_ok s [48, 49, 50, 51, 52, 53, 54, 55, 56, 57] hm (by decide) (by decide)
  have hdg := trimS_digits s
  generalize Lib.trimS s [48, 49, 50, 51, 52, 53, 54, 55, 56, 57] = u at htr hdg
  repeat' (first | (first | refine Ya ?_ | refine Yb ?_ | refine Yc ?_ | refine Yd ?_ | refine Ye ?_ | refine Yf ?_ | refine Yg ?_ | refine Yh ?_ | refine Yi ?_ | refine Yj ?_ | refine Yk ?_ | refine Yl ?_ | refine Ym ?_ | refine Yn ?_ | refine Yo ?_ | refine Yp (h := ?_) | refine Yq ?_ | refine Yr ?_ | refine Ys ?_ | refine Zr hc (hk := ?_) | refine Zd hc (hk := ?_) | (refine Zc (ht := fun hb => ?_) (hf := fun hb => ?_) <;> (try simp at hb)) | fail) | (first | refine Zw hc (hf := by exact htr) (hk := ?_) | refine Zq hc (hf := by exact htr) (hk := ?_) | refine Zo hc (hk := ?_) | refine Zu hc (hk := ?_) | refine Ze hc (hk := ?_) | refine Zn hc (hk := ?_) | fail))
  · rw [portB_no s (fun e => by
      rcases hb with h | h
      · omega
      · exact h (hdg.2 e.2.2))]
    (refine Zl hc (hr := ?_))
    simp
  have hd := hdg.1 hb.2
  rw [portB_yes s ⟨by omega, by omega, hd⟩]
  refine ewp_loop (fun j : Nat => ⟨[(0, .d (str s)), (3, .d (int (digN (s.take j)))), (19, .d (int s.length)), (20, .d (int j))], []⟩) (fun j => j ≤ s.length) (fun j => s.length - j) 0 (by simp) (run_keep [0, 3, 19, 20] [] (by simp; exact Gives.mk) (by simp; exact Gives.mk)) ?_
  intro j h1
  have hlt := digN_lt s hd j h1
  have hpow : 10 ^ j ≤ 10 ^ 5 := Nat.pow_le_pow_right (by omega) (by omega)
  have hat := dig_at s hd j
  have hnx := digN_take s j
  by_cases hj : j < s.length
  · have hat := hat hj
    generalize digN (s.take j) = n at hlt hnx
    repeat' (first | (first | refine Ya ?_ | refine Yb ?_ | refine Yc ?_ | refine Yd ?_ | refine Ye ?_ | refine Yf ?_ | refine Yg ?_ | refine Yh ?_ | refine Yi ?_ | refine Yj ?_ | refine Yk ?_ | refine Yl ?_ | refine Ym ?_ | refine Yn ?_ | refine Yo ?_ | refine Yp (h := ?_) | refine Yq ?_ | refine Yr ?_ | refine Ys ?_ | refine Zr hc (hk := ?_) | refine Zd hc (hk := ?_) | (refine Zc (ht := fun hb => ?_) (hf := fun hb => ?_) <;> (try simp at hb)) | fail) | (first | refine Zo hc (hk := ?_) | refine Zu hc (hk := ?_) | refine Ze hc (hk := ?_) | refine Zn hc (hk := ?_) | fail))
    · refine ⟨j + 1, by omega, by omega, run_back [0, 3, 19, 20] [] (by simp; exact Gives.mk) (by simp; exact Gives.mk) ?_⟩
      rw [hnx hj]
      simp
      omega
    all_goals (exfalso; omega)
  · rw [List.take_of_length_le (show s.length ≤ j by omega)]
    repeat' (first | (first | refine Ya ?_ | refine Yb ?_ | refine Yc ?_ | refine Yd ?_ | refine Ye ?_ | refine Yf ?_ | refine Yg ?_ | refine Yh ?_ | refine Yi ?_ | refine Yj ?_ | refine Yk ?_ | refine Yl ?_ | refine Ym ?_ | refine Yn ?_ | refine Yo ?_ | refine Yp (h := ?_) | refine Yq ?_ | refine Yr ?_ | refine Ys ?_ | refine Zr hc (hk := ?_) | refine Zd hc (hk := ?_) | (refine Zc (ht := fun hb => ?_) (hf := fun hb => ?_) <;> (try simp at hb)) | fail) | (first | refine Zo hc (hk := ?_) | refine Zu hc (hk := ?_) | refine Ze hc (hk := ?_) | refine Zn hc (hk := ?_) | fail))
    · exfalso; omega
    · rw [if_neg (by omega)]
      (refine Zl hc (hr := ?_))
      simp
    · rw [if_pos (by omega)]
      (refine Zl hc (hr := ?_))
      simp
end Go.Proofs.YtpmfmjgnhdfakaaGreatDoor
/-
  ADDRESS: normal forms of rows. (WITH run_drawN.)
-/
set_option linter.unusedSimpArgs false
set_option linter.unusedVariables false
namespace Go.Proofs.YtpmfmjgnhdfakaaGreatDoor
open Go.Lw Go.RowKit
set_option maxRecDepth 100000
set_option maxHeartbeats 1000000

/-- The number of a hexadecimal digit. -/
def hexV (c : UInt8) : UInt8 := if isDig c then c - 48 else if decide (97 ≤ c.toNat) then c - 97 + 10 else c - 65 + 10
theorem hexV_nat {c : UInt8} (h : isHexB c = true) : (hexV c).toNat = if isDig c = true then c.toNat - 48 else if 97 ≤ c.toNat then c.toNat - 87 else c.toNat - 55 := by
  have h1 : ∀ n : Fin 256, isHexB (UInt8.ofNat n.val) = true → (hexV (UInt8.ofNat n.val)).toNat = if isDig (UInt8.ofNat n.val) = true then (UInt8.ofNat n.val).toNat - 48 else if 97 ≤ (UInt8.ofNat n.val).toNat then (UInt8.ofNat n.val).toNat - 87 else (UInt8.ofNat n.val).toNat - 55 := by decide
  have h2 := h1 ⟨c.toNat, c.toNat_lt⟩
  simp only [UInt8.ofNat_toNat] at h2
  exact h2 h
theorem hexV_lt {c : UInt8} (h : isHexB c = true) : (hexV c).toNat < 16 := by
  have h1 : ∀ n : Fin 256, isHexB (UInt8.ofNat n.val) = true → (hexV (UInt8.ofNat n.val)).toNat < 16 := by decide
  have h2 := h1 ⟨c.toNat, c.toNat_lt⟩
  simp only [UInt8.ofNat_toNat] at h2
  exact h2 h
theorem value_ok (c : UInt8) (h : isHexB c = true) : FnOk Tryz.prog 127 [u8 c] (u8 (hexV c)) := by
  refine fnOk Tryz.func127 rfl (by kernel_rfl) Tryz.ntmps127 _ rfl (by simp) fun C hc => ?_
  have hv := hexV_nat h
  have hlt := c.toNat_lt
  have hr : 48 ≤ c.toNat ∧ (isDig c = false → 65 ≤ c.toNat) ∧ c.toNat ≤ 102 := by
    simp only [isHexB, isDig, Bool.or_eq_true, Bool.and_eq_true, decide_eq_true_eq, Bool.and_eq_false_iff, decide_eq_false_iff_not] at h ⊢
    omega
  have hd0 := adDigit_ok c
  cases hd : isDig c with
  | true =>
    rw [hd] at hd0
    rw [if_pos hd] at hv
    repeat' (first | (first | refine Ya ?_ | refine Yb ?_ | refine Yc ?_ | refine Yd ?_ | refine Ye ?_ | refine Yf ?_ | refine Yg ?_ | refine Yh ?_ | refine Yi ?_ | refine Yj ?_ | refine Yk ?_ | refine Yl ?_ | refine Ym ?_ | refine Yn ?_ | refine Yo ?_ | refine Yp (h := ?_) | refine Yq ?_ | refine Yr ?_ | refine Ys ?_ | refine Zr hc (hk := ?_) | refine Zd hc (hk := ?_) | (refine Zc (ht := fun hb => ?_) (hf := fun hb => ?_) <;> (try simp at hb)) | fail) | (first | refine Zw hc (hf := by exact hd0) (hk := ?_) | refine Zq hc (hf := by exact hd0) (hk := ?_) | refine Zo hc (hk := ?_) | refine Zu hc (hk := ?_) | refine Ze hc (hk := ?_) | refine Zn hc (hk := ?_) | fail))
    all_goals try contradiction
    (refine Zl hc (hr := ?_))
    simp
    omega
  | false =>
    have h65 := hr.2.1 hd
    rw [hd] at hd0
    rw [if_neg (by rw [hd]; decide)] at hv
    repeat' (first | (first | refine Ya ?_ | refine Yb ?_ | refine Yc ?_ | refine Yd ?_ | refine Ye ?_ | refine Yf ?_ | refine Yg ?_ | refine Yh ?_ | refine Yi ?_ | refine Yj ?_ | refine Yk ?_ | refine Yl ?_ | refine Ym ?_ | refine Yn ?_ | refine Yo ?_ | refine Yp (h := ?_) | refine Yq ?_ | refine Yr ?_ | refine Ys ?_ | refine Zr hc (hk := ?_) | refine Zd hc (hk := ?_) | (refine Zc (ht := fun hb => ?_) (hf := fun hb => ?_) <;> (try simp at hb)) | fail) | (first | refine Zw hc (hf := by exact hd0) (hk := ?_) | refine Zq hc (hf := by exact hd0) (hk := ?_) | refine Zo hc (hk := ?_) | refine Zu hc (hk := ?_) | refine Ze hc (hk := ?_) | refine Zn hc (hk := ?_) | fail))
    all_goals try contradiction
    · rw [if_pos (by omega)] at hv
      (refine Zl hc (hr := ?_))
      simp
      omega
    · rw [if_neg (by omega)] at hv
      (refine Zl hc (hr := ?_))
      simp
      omega
/-! The normal form of a row. -/
def keepC (c : UInt8) : Bool := isLet c || isDig c || decide (c.toNat = 45) || decide (c.toNat = 46) || decide (c.toNat = 95) || decide (c.toNat = 126)
def bigH (n : Nat) : UInt8 := ([48, 49, 50, 51, 52, 53, 54, 55, 56, 57, 65, 66, 67, 68, 69, 70] : Bs)[n]?.getD 0
def two (h k : UInt8) : UInt8 := UInt8.ofNat (16 * (hexV h).toNat + (hexV k).toNat)
def normB (c : UInt8) : Bs := if keepC c = true then [c] else [37, bigH (c.toNat / 16), bigH (c.toNat % 16)]
def normR : Bs → Bs
  | [] => []
  | c :: r => if c = 37 then match r with
      | h :: k :: r2 => normB (two h k) ++ normR r2
      | r => c :: r
    else c :: normR r
/-- Its bytes as the loop makes them: from a place on. -/
theorem normR_at (s : Bs) (j : Nat) (h : j < s.length) (h37 : ¬ s[j]?.getD 0 = 37) : normR (s.drop j) = s[j]?.getD 0 :: normR (s.drop (j + 1)) := by
  rw [show s.drop j = s[j]?.getD 0 :: s.drop (j + 1) by rw [List.drop_eq_getElem_cons h]; simp [h], normR.eq_def]
  simp only
  rw [if_neg h37]
theorem normR_pc (s : Bs) (j : Nat) (h : j + 2 < s.length) (h37 : s[j]?.getD 0 = 37) : normR (s.drop j) = normB (two (s[j + 1]?.getD 0) (s[j + 2]?.getD 0)) ++ normR (s.drop (j + 3)) := by
  have d : ∀ i, i < s.length → s.drop i = s[i]?.getD 0 :: s.drop (i + 1) := fun i hi => by rw [List.drop_eq_getElem_cons hi]; simp [hi]
  rw [d j (by omega), d (j + 1) (by omega), d (j + 2) (by omega), normR.eq_def]
  simp only
  rw [if_pos h37]
/-- Numbers of the walk. -/
theorem two_num {h k : UInt8} (hh : isHexB h = true) (hk : isHexB k = true) :
    IntKind.u8.wrap (((IntKind.u8.wrap (((hexV h).toNat : Int) * 2 ^ min 4 IntKind.u8.bits) % 2 ^ IntKind.u8.bits).toNat ||| (hexV k).toNat % 2 ^ IntKind.u8.bits : Nat) : Int) = ((two h k).toNat : Int) := by
  have h1 := hexV_lt hh
  have h2 := hexV_lt hk
  unfold two
  generalize (hexV h).toNat = x at h1
  generalize (hexV k).toNat = y at h2
  have key : ∀ x y : Fin 16, IntKind.u8.wrap (((IntKind.u8.wrap ((x.val : Int) * 2 ^ min 4 IntKind.u8.bits) % 2 ^ IntKind.u8.bits).toNat ||| y.val % 2 ^ IntKind.u8.bits : Nat) : Int) = ((UInt8.ofNat (16 * x.val + y.val)).toNat : Int) := by decide
  exact key ⟨x, h1⟩ ⟨y, h2⟩
theorem hi_num (c : UInt8) : (c.toNat : Int).fdiv (2 ^ min 4 IntKind.u8.bits) = ((c.toNat / 16 : Nat) : Int) := by
  have key : ∀ n : Fin 256, (n.val : Int).fdiv (2 ^ min 4 IntKind.u8.bits) = ((n.val / 16 : Nat) : Int) := by decide
  exact key ⟨c.toNat, c.toNat_lt⟩
theorem lo_num (c : UInt8) : IntKind.u8.wrap ((c.toNat % 2 ^ IntKind.u8.bits &&& 15 % 2 ^ IntKind.u8.bits : Nat) : Int) = ((c.toNat % 16 : Nat) : Int) := by
  have key : ∀ n : Fin 256, IntKind.u8.wrap ((n.val % 2 ^ IntKind.u8.bits &&& 15 % 2 ^ IntKind.u8.bits : Nat) : Int) = ((n.val % 16 : Nat) : Int) := by decide
  exact key ⟨c.toNat, c.toNat_lt⟩
theorem one_row : ∀ m : Bs, m.map (oneByte ∘ byteRow) = m
  | [] => rfl
  | c :: m => by rw [List.map_cons, one_row m]; simp [oneByte, byteRow]
theorem row_one {s : Bs} {j : Nat} (h : j < s.length) (hr : isRow [] (s.drop j)) (h37 : ¬ s[j]?.getD 0 = 37) : isRow [] (s.drop (j + 1)) := by
  unfold isRow at hr ⊢
  rw [rowE_at [] s j h, if_neg (by simp)] at hr
  split at hr
  · have := congrArg Prod.snd hr; cases this
  · have e1 := congrArg Prod.fst hr
    have e2 := congrArg Prod.snd hr
    simp only [List.length_drop] at e1 e2 ⊢
    exact Prod.ext (by simp only; omega) e2
theorem row_three {s : Bs} {j : Nat} (h : j < s.length) (hr : isRow [] (s.drop j)) (h37 : s[j]?.getD 0 = 37) : j + 2 < s.length ∧ isHexB (s[j + 1]?.getD 0) = true ∧ isHexB (s[j + 2]?.getD 0) = true ∧ isRow [] (s.drop (j + 3)) := by
  unfold isRow at hr ⊢
  rw [rowE_at [] s j h, if_neg (by simp)] at hr
  split at hr
  · have := congrArg Prod.snd hr; cases this
  · split at hr
    · rename_i h3
      have e1 := congrArg Prod.fst hr
      have e2 := congrArg Prod.snd hr
      simp only [List.length_drop] at e1 e2 ⊢
      exact ⟨h3.1, h3.2.1, h3.2.2, Prod.ext (by simp only; omega) e2⟩
    · have := congrArg Prod.snd hr; cases this
theorem normR_ok (s : Bs) (hm : s.length ≤ 100000) (hr : isRow [] s) : FnOk Tryz.prog 93 [str s] (str (normR s)) := by
  refine fnOk Tryz.func93 rfl (by kernel_rfl) Tryz.ntmps93 _ rfl (by simp) fun C hc => ?_
  repeat' (first | (first | refine Ya ?_ | refine Yb ?_ | refine Yc ?_ | refine Yd ?_ | refine Ye ?_ | refine Yf ?_ | refine Yg ?_ | refine Yh ?_ | refine Yi ?_ | refine Yj ?_ | refine Yk ?_ | refine Yl ?_ | refine Ym ?_ | refine Yn ?_ | refine Yo ?_ | refine Yp (h := ?_) | refine Yq ?_ | refine Yr ?_ | refine Ys ?_ | refine Zr hc (hk := ?_) | refine Zd hc (hk := ?_) | (refine Zc (ht := fun hb => ?_) (hf := fun hb => ?_) <;> (try simp at hb)) | fail) | (first | refine Zo hc (hk := ?_) | refine Zu hc (hk := ?_) | refine Ze hc (hk := ?_) | refine Zn hc (hk := ?_) | fail))
  refine ewp_loop (fun x : Nat × Bs => ⟨[(0, .d (str s)), (3, .os 40000 x.2.length), (4, .d (int x.1))], [(40000, .own 5 1 (true, [.lit (.int .u8 0)]) (x.2.map byteRow))]⟩) (fun x => x.1 ≤ s.length ∧ isRow [] (s.drop x.1) ∧ normR s = x.2 ++ normR (s.drop x.1) ∧ x.2.length ≤ x.1) (fun x => s.length - x.1) (0, []) ⟨by simp, by simpa using hr, by simp, by simp⟩ (run_keepB [(3, none, 40000, 5, [.lit (.int .u8 0)])] [0, 3, 4] [40000] (by simp; exact Gives.mk) (by simp; exact Gives.mk) (by simp; exact Gives.mk)) ?_
  rintro ⟨j, m⟩ ⟨h1, h2, h3, h4⟩
  simp only at h1 h2 h3 h4 ⊢
  by_cases hj : j < s.length
  rotate_left
  · rw [List.drop_of_length_le (by omega)] at h3
    rw [h3]
    repeat' (first | (first | refine Ya ?_ | refine Yb ?_ | refine Yc ?_ | refine Yd ?_ | refine Ye ?_ | refine Yf ?_ | refine Yg ?_ | refine Yh ?_ | refine Yi ?_ | refine Yj ?_ | refine Yk ?_ | refine Yl ?_ | refine Ym ?_ | refine Yn ?_ | refine Yo ?_ | refine Yp (h := ?_) | refine Yq ?_ | refine Yr ?_ | refine Ys ?_ | refine Zr hc (hk := ?_) | refine Zd hc (hk := ?_) | (refine Zc (ht := fun hb => ?_) (hf := fun hb => ?_) <;> (try simp at hb)) | fail) | (first | refine Zo hc (hk := ?_) | refine Zu hc (hk := ?_) | refine Ze hc (hk := ?_) | refine Zn hc (hk := ?_) | fail))
    all_goals try (exfalso; omega)
    rw [show normR [] = ([] : Bs) from rfl, List.append_nil]
    (refine Zl hc (hr := ?_))
    simp [one_row]
  by_cases h37 : s[j]?.getD 0 = 37
  rotate_left
  · have e := normR_at s j hj h37
    have h37' : ¬ (((s[j]?.getD 0).toNat : Int) = 37) := fun x => h37 (UInt8.toNat_inj.1 (by simp; omega))
    repeat' (first | (first | refine Ya ?_ | refine Yb ?_ | refine Yc ?_ | refine Yd ?_ | refine Ye ?_ | refine Yf ?_ | refine Yg ?_ | refine Yh ?_ | refine Yi ?_ | refine Yj ?_ | refine Yk ?_ | refine Yl ?_ | refine Ym ?_ | refine Yn ?_ | refine Yo ?_ | refine Yp (h := ?_) | refine Yq ?_ | refine Yr ?_ | refine Ys ?_ | refine Zr hc (hk := ?_) | refine Zd hc (hk := ?_) | (refine Zc (ht := fun hb => ?_) (hf := fun hb => ?_) <;> (try simp at hb)) | fail) | (first | refine Zo hc (hk := ?_) | refine Zu hc (hk := ?_) | refine Ze hc (hk := ?_) | refine Zn hc (hk := ?_) | fail))
    all_goals try (exfalso; omega)
    refine ⟨(j + 1, m ++ [s[j]?.getD 0]), ⟨by simp; omega, row_one hj h2 h37, by rw [h3, e]; simp, by simp; omega⟩, by simp; omega, run_back [0, 3, 4] [40000] (by simp; exact Gives.mk) (by simp; exact Gives.mk) (by simp)⟩
  · obtain ⟨g1, g2, g3, g4⟩ := row_three hj h2 h37
    have e := normR_pc s j g1 h37
    have h37' : (((s[j]?.getD 0).toNat : Int) = 37) := by rw [h37]; rfl
    have hn := two_num g2 g3
    repeat' (first | (first | refine Ya ?_ | refine Yb ?_ | refine Yc ?_ | refine Yd ?_ | refine Ye ?_ | refine Yf ?_ | refine Yg ?_ | refine Yh ?_ | refine Yi ?_ | refine Yj ?_ | refine Yk ?_ | refine Yl ?_ | refine Ym ?_ | refine Yn ?_ | refine Yo ?_ | refine Yp (h := ?_) | refine Yq ?_ | refine Yr ?_ | refine Ys ?_ | refine Zr hc (hk := ?_) | refine Zd hc (hk := ?_) | (refine Zc (ht := fun hb => ?_) (hf := fun hb => ?_) <;> (try simp at hb)) | fail) | (first | refine Zw hc (hf := by first | exact value_ok _ g2 | exact value_ok _ g3) (hk := ?_) | refine Zq hc (hf := by first | exact value_ok _ g2 | exact value_ok _ g3) (hk := ?_) | refine Zo hc (hk := ?_) | refine Zu hc (hk := ?_) | refine Ze hc (hk := ?_) | refine Zn hc (hk := ?_) | fail))
    all_goals try (exfalso; omega)
    rw [hn]
    generalize two (s[j + 1]?.getD 0) (s[j + 2]?.getD 0) = c at e
    repeat' (first | (first | refine Ya ?_ | refine Yb ?_ | refine Yc ?_ | refine Yd ?_ | refine Ye ?_ | refine Yf ?_ | refine Yg ?_ | refine Yh ?_ | refine Yi ?_ | refine Yj ?_ | refine Yk ?_ | refine Yl ?_ | refine Ym ?_ | refine Yn ?_ | refine Yo ?_ | refine Yp (h := ?_) | refine Yq ?_ | refine Yr ?_ | refine Ys ?_ | refine Zr hc (hk := ?_) | refine Zd hc (hk := ?_) | (refine Zc (ht := fun hb => ?_) (hf := fun hb => ?_) <;> (try simp at hb)) | fail) | (first | refine Zw hc (hf := by first | exact adLetter_ok _ | exact adDigit_ok _) (hk := ?_) | refine Zq hc (hf := by first | exact adLetter_ok _ | exact adDigit_ok _) (hk := ?_) | refine Zo hc (hk := ?_) | refine Zu hc (hk := ?_) | refine Ze hc (hk := ?_) | refine Zn hc (hk := ?_) | fail))
    · have hk : keepC c = true := by
        rcases hb with ((((h | h) | h) | h) | h) | h
        · simp [keepC, h]
        · simp [keepC, h]
        · simp [keepC, show c.toNat = 45 by omega]
        · simp [keepC, show c.toNat = 46 by omega]
        · simp [keepC, show c.toNat = 95 by omega]
        · simp [keepC, show c.toNat = 126 by omega]
      have hB : normB c = [c] := by unfold normB; rw [if_pos hk]
      rw [hB] at e
      refine ⟨(j + 3, m ++ [c]), ⟨by simp; omega, g4, by rw [h3, e]; simp, by simp; omega⟩, by simp; omega, run_back [0, 3, 4] [40000] (by simp; exact Gives.mk) (by simp; exact Gives.mk) (by simp; omega)⟩
    · have hk : keepC c = false := by
        have n1 : ¬ c.toNat = 45 := by omega
        have n2 : ¬ c.toNat = 46 := by omega
        have n3 : ¬ c.toNat = 95 := by omega
        have n4 : ¬ c.toNat = 126 := by omega
        simp [keepC, hb.1.1.1.1.1, hb.1.1.1.1.2, n1, n2, n3, n4]
      have hB : normB c = [37, bigH (c.toNat / 16), bigH (c.toNat % 16)] := by unfold normB; rw [if_neg (by rw [hk]; decide)]
      rw [hB] at e
      have hi := hi_num c
      have lo := lo_num c
      have hcl := c.toNat_lt
      have hd1 : c.toNat / 16 < 16 := by omega
      have hd2 : c.toNat % 16 < 16 := by omega
      clear hn
      (apply run_drawAny 10 hc (by kernel_rfl) rfl; (focus (refine run_anyM 0 hc rfl (by kernel_rfl) rfl (by first | exact .inl rfl | exact .inr rfl) (by simp [hi, lo]; exact Gives.mk) (by simp) (by simp [hi, lo]; exact Gives.mk) ?_; refine run_anyM 1 hc rfl (by kernel_rfl) rfl (by first | exact .inl rfl | exact .inr rfl) (by simp [hi, lo]; exact Gives.mk) (by simp) (by simp [hi, lo]; exact Gives.mk) ?_; refine run_anyP 2 hc rfl (by kernel_rfl) rfl (by simp [hi, lo]; exact Gives.mk) (by first | exact True.intro | omega | (simp; done) | (simp; omega) | (simp at *; omega)) (by simp) (by simp) (by simp [hi, lo]; exact Gives.mk) ?_; refine run_anyP 3 hc rfl (by kernel_rfl) rfl (by simp [hi, lo]; exact Gives.mk) (by first | exact True.intro | omega | (simp; done) | (simp; omega) | (simp at *; omega)) (by simp) (by simp) (by simp [hi, lo]; exact Gives.mk) ?_; refine run_anyM 4 hc rfl (by kernel_rfl) rfl (by first | exact .inl rfl | exact .inr rfl) (by simp [hi, lo]; exact Gives.mk) (by simp) (by simp [hi, lo]; exact Gives.mk) ?_; refine run_anyP 5 hc rfl (by kernel_rfl) rfl (by simp [hi, lo]; exact Gives.mk) (by first | exact True.intro | omega | (simp; done) | (simp; omega) | (simp at *; omega)) (by simp) (by simp) (by simp [hi, lo]; exact Gives.mk) ?_; refine run_anyP 6 hc rfl (by kernel_rfl) rfl (by simp [hi, lo]; exact Gives.mk) (by first | exact True.intro | omega | (simp; done) | (simp; omega) | (simp at *; omega)) (by simp) (by simp) (by simp [hi, lo]; exact Gives.mk) ?_; refine anyW_all [7] (by kernel_rfl) rfl ?_; (focus (refine run_stepW hc rfl (by simp [hi, lo]; exact Ends.go) (by first | exact True.intro | omega | (simp; done) | (simp; omega) | (simp at *; omega)) ?_; refine anyW_all [8] (by kernel_rfl) rfl ?_; (focus (refine run_stepW hc rfl (by simp [hi, lo]; exact Ends.go) (by first | exact True.intro | omega | (simp; done) | (simp; omega) | (simp at *; omega)) ?_; refine run_anyM 9 hc rfl (by kernel_rfl) rfl (by first | exact .inl rfl | exact .inr rfl) (by simp [hi, lo]; exact Gives.mk) (by simp) (by simp [hi, lo]; exact Gives.mk) ?_; refine anyW_done (by kernel_rfl) ?_; exact run_keep [0, 3, 4] [40000] (by simp [hi, lo]; try exact Gives.mk) (by simp [hi, lo]; try exact Gives.mk))))))))
      repeat' (first | (first | refine Ya ?_ | refine Yb ?_ | refine Yc ?_ | refine Yd ?_ | refine Ye ?_ | refine Yf ?_ | refine Yg ?_ | refine Yh ?_ | refine Yi ?_ | refine Yj ?_ | refine Yk ?_ | refine Yl ?_ | refine Ym ?_ | refine Yn ?_ | refine Yo ?_ | refine Yp (h := ?_) | refine Yq ?_ | refine Yr ?_ | refine Ys ?_ | refine Zr hc (hk := ?_) | refine Zd hc (hk := ?_) | (refine Zc (ht := fun hb => ?_) (hf := fun hb => ?_) <;> (try simp at hb)) | fail) | (first | refine Zo hc (hk := ?_) | refine Zu hc (hk := ?_) | refine Ze hc (hk := ?_) | refine Zn hc (hk := ?_) | fail))
      have e1 : ((c.toNat : Int) / 16).toNat = c.toNat / 16 := by omega
      have e2 : ((c.toNat : Int) % 16).toNat = c.toNat % 16 := by omega
      refine ⟨(j + 3, m ++ [37, bigH (c.toNat / 16), bigH (c.toNat % 16)]), ⟨by simp; omega, g4, by rw [h3, e]; simp, by simp; omega⟩, by simp; omega, run_back [0, 3, 4] [40000] (by simp; exact Gives.mk) (by simp; exact Gives.mk) (by simp [bigH, hi, lo, e1, e2]; omega)⟩
end Go.Proofs.YtpmfmjgnhdfakaaGreatDoor
