/-
  ADDRESS: bytes, labels, hosts, ports, rows. (WITH run_drawN.)
-/
import Derived.Test.YtjbabjfmcganpaaGreatDoorAdK
import Derived.Shelf.Strings.SlTrimAscii
import Derived.Test.YtjbabjfmcganpaaGreatDoorLwTail
set_option linter.unusedSimpArgs false
set_option linter.unusedVariables false
namespace Go.Proofs.YtjbabjfmcganpaaGreatDoor
open Go.Lw Go.RowKit
set_option maxRecDepth 100000
set_option maxHeartbeats 1000000

theorem adLetter_ok (c : UInt8) : FnOk Tryz.prog 90 [u8 c] (tru (isLet c)) := by
  refine fnOk Tryz.func90 rfl (by kernel_rfl) Tryz.ntmps90 _ rfl (by simp) fun C hc => ?_
  repeat' (first | refine Ya ?_ | refine Yb ?_ | refine Yc ?_ | refine Yd ?_ | refine Ye ?_ | refine Yf ?_ | refine Yg ?_ | refine Yh ?_ | refine Yi ?_ | refine Yj ?_ | refine Yk ?_ | refine Yl ?_ | refine Ym ?_ | refine Yn ?_ | refine Yo ?_ | refine Yp (h := ?_) | refine Yq ?_ | refine Yr ?_ | refine Ys ?_ | refine Zr hc (hk := ?_) | refine Zd hc (hk := ?_) | (refine Zc (ht := fun hb => ?_) (hf := fun hb => ?_) <;> (try simp at hb)) | fail)
  (refine Zl hc (hr := ?_))
  refine res_bool ?_
  rw [Bool.eq_iff_iff]; simp [isLet, isLo, isUp]; omega
theorem adDigit_ok (c : UInt8) : FnOk Tryz.prog 91 [u8 c] (tru (isDig c)) := by
  refine fnOk Tryz.func91 rfl (by kernel_rfl) Tryz.ntmps91 _ rfl (by simp) fun C hc => ?_
  repeat' (first | refine Ya ?_ | refine Yb ?_ | refine Yc ?_ | refine Yd ?_ | refine Ye ?_ | refine Yf ?_ | refine Yg ?_ | refine Yh ?_ | refine Yi ?_ | refine Yj ?_ | refine Yk ?_ | refine Yl ?_ | refine Ym ?_ | refine Yn ?_ | refine Yo ?_ | refine Yp (h := ?_) | refine Yq ?_ | refine Yr ?_ | refine Ys ?_ | refine Zr hc (hk := ?_) | refine Zd hc (hk := ?_) | (refine Zc (ht := fun hb => ?_) (hf := fun hb => ?_) <;> (try simp at hb)) | fail)
  (refine Zl hc (hr := ?_))
  refine res_bool ?_
  rw [Bool.eq_iff_iff]; simp [isDig]; omega
theorem adHex_ok (c : UInt8) : FnOk Tryz.prog 99 [u8 c] (tru (isHexB c)) := by
  refine fnOk Tryz.func99 rfl (by kernel_rfl) Tryz.ntmps99 _ rfl (by simp) fun C hc => ?_
  repeat' (first | (first | refine Ya ?_ | refine Yb ?_ | refine Yc ?_ | refine Yd ?_ | refine Ye ?_ | refine Yf ?_ | refine Yg ?_ | refine Yh ?_ | refine Yi ?_ | refine Yj ?_ | refine Yk ?_ | refine Yl ?_ | refine Ym ?_ | refine Yn ?_ | refine Yo ?_ | refine Yp (h := ?_) | refine Yq ?_ | refine Yr ?_ | refine Ys ?_ | refine Zr hc (hk := ?_) | refine Zd hc (hk := ?_) | (refine Zc (ht := fun hb => ?_) (hf := fun hb => ?_) <;> (try simp at hb)) | fail) | (first | refine Zw hc (hf := by exact adDigit_ok _) (hk := ?_) | refine Zq hc (hf := by exact adDigit_ok _) (hk := ?_) | refine Zo hc (hk := ?_) | refine Zu hc (hk := ?_) | refine Ze hc (hk := ?_) | refine Zn hc (hk := ?_) | fail))
  (refine Zl hc (hr := ?_))
  refine res_bool ?_
  rw [Bool.eq_iff_iff]; cases h : isDig c <;> simp [isHexB, h] <;> omega

/-! Labels and hosts. -/
theorem all_next {α : Type} (p : α → Bool) (s : List α) (d : α) (j : Nat) (h : j < s.length) : (s.take (j + 1)).all p = ((s.take j).all p && p (s[j]?.getD d)) := by
  rw [List.take_add_one, List.all_append]; simp [h]
theorem all_not {α : Type} (p : α → Bool) (s : List α) (d : α) (j : Nat) (h : j < s.length) (hp : p (s[j]?.getD d) = false) : s.all p = false := by
  rw [List.all_eq_false]
  exact ⟨s[j], List.getElem_mem h, by simpa [h] using hp⟩
theorem isLab_iff (s : Bs) : isLab s = true ↔ (1 ≤ s.length ∧ s.length ≤ 63 ∧ (s[0]?.getD 0).toNat ≠ 45 ∧ (s[s.length - 1]?.getD 0).toNat ≠ 45 ∧ s.all labB = true) := by
  simp [isLab, and_assoc]
theorem isLabel_ok (s : Bs) (hm : s.length ≤ 9223372036854775807) : FnOk Tryz.prog 56 [str s] (tru (isLab s)) := by
  refine fnOk Tryz.func56 rfl (by kernel_rfl) Tryz.ntmps56 _ rfl (by simp) fun C hc => ?_
  have hiff := isLab_iff s
  repeat' (first | (first | refine Ya ?_ | refine Yb ?_ | refine Yc ?_ | refine Yd ?_ | refine Ye ?_ | refine Yf ?_ | refine Yg ?_ | refine Yh ?_ | refine Yi ?_ | refine Yj ?_ | refine Yk ?_ | refine Yl ?_ | refine Ym ?_ | refine Yn ?_ | refine Yo ?_ | refine Yp (h := ?_) | refine Yq ?_ | refine Yr ?_ | refine Ys ?_ | refine Zr hc (hk := ?_) | refine Zd hc (hk := ?_) | (refine Zc (ht := fun hb => ?_) (hf := fun hb => ?_) <;> (try simp at hb)) | fail) | (first | refine Zo hc (hk := ?_) | refine Zu hc (hk := ?_) | refine Ze hc (hk := ?_) | refine Zn hc (hk := ?_) | fail))
  · have : isLab s = false := by
      rw [← Bool.not_eq_true]
      intro e
      have := hiff.1 e
      omega
    rw [this]
    (refine Zl hc (hr := ?_))
    simp
  refine ewp_loop (fun j : Nat => ⟨[(0, .d (str s)), (26, .d (int s.length)), (27, .d (int j))], []⟩) (fun j => j ≤ s.length ∧ (s.take j).all labB = true) (fun j => s.length - j) 0 (by simp) (run_keep [0, 26, 27] [] (by simp; exact Gives.mk) (by simp; exact Gives.mk)) ?_
  rintro j ⟨h1, h2⟩
  have hn := fun h => all_next labB s 0 j h
  have hno := fun h => all_not labB s 0 j h
  have hL : ∀ c : UInt8, labB c = (isLet c || isDig c || decide (c.toNat = 45)) := fun _ => rfl
  repeat' (first | (first | refine Ya ?_ | refine Yb ?_ | refine Yc ?_ | refine Yd ?_ | refine Ye ?_ | refine Yf ?_ | refine Yg ?_ | refine Yh ?_ | refine Yi ?_ | refine Yj ?_ | refine Yk ?_ | refine Yl ?_ | refine Ym ?_ | refine Yn ?_ | refine Yo ?_ | refine Yp (h := ?_) | refine Yq ?_ | refine Yr ?_ | refine Ys ?_ | refine Zr hc (hk := ?_) | refine Zd hc (hk := ?_) | (refine Zc (ht := fun hb => ?_) (hf := fun hb => ?_) <;> (try simp at hb)) | fail) | (first | refine Zw hc (hf := by first | exact adLetter_ok _ | exact adDigit_ok _) (hk := ?_) | refine Zq hc (hf := by first | exact adLetter_ok _ | exact adDigit_ok _) (hk := ?_) | refine Zo hc (hk := ?_) | refine Zu hc (hk := ?_) | refine Ze hc (hk := ?_) | refine Zn hc (hk := ?_) | fail))
  · rename_i hlt
    have : isLab s = false := by
      rw [← Bool.not_eq_true]
      intro e
      have h3 := (hiff.1 e).2.2.2.2
      rw [hno (by omega) (by rw [hL, hb.1.1, hb.1.2]; simp; omega)] at h3
      cases h3
    rw [this]
    (refine Zl hc (hr := ?_))
    simp
  · rename_i hlt
    refine ⟨j + 1, ⟨by omega, ?_⟩, by omega, run_back [0, 26, 27] [] (by simp; exact Gives.mk) (by simp; exact Gives.mk) (by simp)⟩
    rw [hn (by omega), h2, hL]
    cases h3 : isLet (s[j]?.getD 0)
    · cases h4 : isDig (s[j]?.getD 0)
      · have := hb h3 h4
        simp; omega
      · simp
    · rfl
  · have : isLab s = true := by
      refine hiff.2 ⟨by omega, by omega, by omega, by omega, ?_⟩
      rw [List.take_of_length_le (by omega)] at h2
      exact h2
    rw [this]
    (refine Zl hc (hr := ?_))
    simp
theorem isHost_ok (s : Bs) (hm : s.length ≤ 9223372036854775807) : FnOk Tryz.prog 31 [str s] (tru (isHostB s)) := by
  refine fnOk Tryz.func31 rfl (by kernel_rfl) Tryz.ntmps31 _ rfl (by simp) fun C hc => ?_
  by_cases hlen : s.length ≤ 253
  rotate_left
  · have : isHostB s = false := by simp [isHostB, hlen]
    rw [this]
    repeat' (first | (first | refine Ya ?_ | refine Yb ?_ | refine Yc ?_ | refine Yd ?_ | refine Ye ?_ | refine Yf ?_ | refine Yg ?_ | refine Yh ?_ | refine Yi ?_ | refine Yj ?_ | refine Yk ?_ | refine Yl ?_ | refine Ym ?_ | refine Yn ?_ | refine Yo ?_ | refine Yp (h := ?_) | refine Yq ?_ | refine Yr ?_ | refine Ys ?_ | refine Zr hc (hk := ?_) | refine Zd hc (hk := ?_) | (refine Zc (ht := fun hb => ?_) (hf := fun hb => ?_) <;> (try simp at hb)) | fail) | (first | refine Zo hc (hk := ?_) | refine Zu hc (hk := ?_) | refine Ze hc (hk := ?_) | refine Zn hc (hk := ?_) | fail))
    · (refine Zl hc (hr := ?_))
      simp
    · exfalso; omega
  have e0 : isHostB s = (Lib.split s [46]).all isLab := by simp [isHostB, hlen]
  have hsp := split_ok s 46 (by omega)
  have hsl := split_len s 46
  have hso := split_offs s 46
  rw [e0]
  generalize Lib.split s [46] = L at hsp hsl hso
  repeat' (first | (first | refine Ya ?_ | refine Yb ?_ | refine Yc ?_ | refine Yd ?_ | refine Ye ?_ | refine Yf ?_ | refine Yg ?_ | refine Yh ?_ | refine Yi ?_ | refine Yj ?_ | refine Yk ?_ | refine Yl ?_ | refine Ym ?_ | refine Yn ?_ | refine Yo ?_ | refine Yp (h := ?_) | refine Yq ?_ | refine Yr ?_ | refine Ys ?_ | refine Zr hc (hk := ?_) | refine Zd hc (hk := ?_) | (refine Zc (ht := fun hb => ?_) (hf := fun hb => ?_) <;> (try simp at hb)) | fail) | (first | refine Zw hc (hf := by exact hsp) (hk := ?_) | refine Zq hc (hf := by exact hsp) (hk := ?_) | refine Zo hc (hk := ?_) | refine Zu hc (hk := ?_) | refine Ze hc (hk := ?_) | refine Zn hc (hk := ?_) | fail))
  · exfalso; omega
  refine ewp_loop (fun j : Nat => ⟨[(9, .d (strSl L)), (10, .d (int L.length)), (11, .d (int j))], []⟩) (fun j => j ≤ L.length ∧ (L.take j).all isLab = true) (fun j => L.length - j) 0 (by simp) (run_keep [9, 10, 11] [] (by simp; exact Gives.mk) (by simp; exact Gives.mk)) ?_
  rintro j ⟨h1, h2⟩
  have hlab := isLabel_ok (L[j]?.getD [])
  have hso := hso j
  have hn := fun h => all_next isLab L [] j h
  have hno := fun h => all_not isLab L [] j h
  repeat' (first | (first | refine Ya ?_ | refine Yb ?_ | refine Yc ?_ | refine Yd ?_ | refine Ye ?_ | refine Yf ?_ | refine Yg ?_ | refine Yh ?_ | refine Yi ?_ | refine Yj ?_ | refine Yk ?_ | refine Yl ?_ | refine Ym ?_ | refine Yn ?_ | refine Yo ?_ | refine Yp (h := ?_) | refine Yq ?_ | refine Yr ?_ | refine Ys ?_ | refine Zr hc (hk := ?_) | refine Zd hc (hk := ?_) | (refine Zc (ht := fun hb => ?_) (hf := fun hb => ?_) <;> (try simp at hb)) | fail) | (first | refine Zw hc (hf := by exact hlab (by omega)) (hk := ?_) | refine Zq hc (hf := by exact hlab (by omega)) (hk := ?_) | refine Zo hc (hk := ?_) | refine Zu hc (hk := ?_) | refine Ze hc (hk := ?_) | refine Zn hc (hk := ?_) | fail))
  · rw [hno (by omega) hb]
    (refine Zl hc (hr := ?_))
    simp
  · exact ⟨j + 1, ⟨by omega, by rw [hn (by omega), h2, hb]; rfl⟩, by omega, run_back [9, 10, 11] [] (by simp; exact Gives.mk) (by simp; exact Gives.mk) (by simp)⟩
  · rw [List.take_of_length_le (by omega)] at h2
    rw [h2]
    (refine Zl hc (hr := ?_))
    simp
/-! Ports. -/
theorem dropWhile_all {p : UInt8 → Bool} : ∀ l : Bs, l.dropWhile p = [] ↔ l.all p = true
  | [] => by simp
  | c :: l => by
    rw [List.dropWhile_cons, List.all_cons]
    cases h : p c
    · simp
    · simpa using dropWhile_all l
theorem dropWhile_twice {p : UInt8 → Bool} : ∀ l : Bs, (l.dropWhile p).all p = l.all p
  | [] => by simp
  | c :: l => by
    rw [List.dropWhile_cons]
    cases h : p c
    · simp [h]
    · simpa [h] using dropWhile_twice l
theorem digits_has (c : UInt8) : ([48, 49, 50, 51, 52, 53, 54, 55, 56, 57] : Bs).contains c = isDig c := by
  rw [Bool.eq_iff_iff]
  simp only [isDig, List.contains_cons, List.contains_nil, Bool.or_false, Bool.or_eq_true, beq_iff_eq, Bool.and_eq_true, decide_eq_true_eq, ← UInt8.toNat_inj]
  simp
  omega
theorem trimS_digits (s : Bs) : Lib.trimS s [48, 49, 50, 51, 52, 53, 54, 55, 56, 57] = [] ↔ s.all isDig = true := by
  unfold Lib.trimS Lib.trimLeftS Lib.trimRightS
  rw [dropWhile_all, List.all_reverse, dropWhile_twice, List.all_reverse]
  rw [show (fun x => ([48, 49, 50, 51, 52, 53, 54, 55, 56, 57] : Bs).contains x) = isDig from funext digits_has]
theorem trim_ok (s : Bs) (cs : Bs) (hs : s.length ≤ 9223372036854775807) (hcs : cs.length < 4294967281) (ha : cs.all (fun b => decide (b.toNat < 128)) = true) : FnOk Tryz.prog 57 [str s, str cs] (str (Lib.trimS s cs)) :=
  fnOk_litsB [.string (bs s), .string (bs cs)] (by kernel_rfl) fun w _ => by
    have h : Calls Tryz.prog 57 #[.string (bs s), .string (bs cs)] w (fun e w' => e = .returned (.string ⟨(Lib.trimS (bs s).data.toList (bs cs).data.toList).toArray⟩) ∧ Below w.heap.size w w') := Any.strings_Trim_laid Tryz.lays160 (by kernel_rfl) (bs s) (bs cs) w (by simpa using hs) (by simpa using hcs) (ascii_of_all (by simpa using ha))
    simpa using h
theorem portOf_ok (s : Bs) (hm : s.length ≤ 9223372036854775807) : FnOk Tryz.prog 32 [str s] (int (portB s)) := by
  refine fnOk Tryz.func32 rfl (by kernel_rfl) Tryz.ntmps32 _ rfl (by simp) fun C hc => ?_
  have htr := trim_ok s [48, 49, 50, 51, 52, 53, 54, 55, 56, 57] hm (by decide) (by decide)
  have hdg := trimS_digits s
  generalize Lib.trimS s [48, 49, 50, 51, 52, 53, 54, 55, 56, 57] = u at htr hdg
  repeat' (first | (first | refine Ya ?_ | refine Yb ?_ | refine Yc ?_ | refine Yd ?_ | refine Ye ?_ | refine Yf ?_ | refine Yg ?_ | refine Yh ?_ | refine Yi ?_ | refine Yj ?_ | refine Yk ?_ | refine Yl ?_ | refine Ym ?_ | refine Yn ?_ | refine Yo ?_ | refine Yp (h := ?_) | refine Yq ?_ | refine Yr ?_ | refine Ys ?_ | refine Zr hc (hk := ?_) | refine Zd hc (hk := ?_) | (refine Zc (ht := fun hb => ?_) (hf := fun hb => ?_) <;> (try simp at hb)) | fail) | (first | refine Zw hc (hf := by exact htr) (hk := ?_) | refine Zq hc (hf := by exact htr) (hk := ?_) | refine Zo hc (hk := ?_) | refine Zu hc (hk := ?_) | refine Ze hc (hk := ?_) | refine Zn hc (hk := ?_) | fail))
  · rw [portB_no s (fun e => by
      rcases hb with h | h
      · omega
      · exact h (hdg.2 e.2.2))]
    (refine Zl hc (hr := ?_))
    simp
  have hd := hdg.1 hb.2
  rw [portB_yes s ⟨by omega, by omega, hd⟩]
  refine ewp_loop (fun j : Nat => ⟨[(0, .d (str s)), (3, .d (int (digN (s.take j)))), (19, .d (int s.length)), (20, .d (int j))], []⟩) (fun j => j ≤ s.length) (fun j => s.length - j) 0 (by simp) (run_keep [0, 3, 19, 20] [] (by simp; exact Gives.mk) (by simp; exact Gives.mk)) ?_
  intro j h1
  have hlt := digN_lt s hd j h1
  have hpow : 10 ^ j ≤ 10 ^ 5 := Nat.pow_le_pow_right (by omega) (by omega)
  have hat := dig_at s hd j
  have hnx := digN_take s j
  by_cases hj : j < s.length
  · have hat := hat hj
    generalize digN (s.take j) = n at hlt hnx
    repeat' (first | (first | refine Ya ?_ | refine Yb ?_ | refine Yc ?_ | refine Yd ?_ | refine Ye ?_ | refine Yf ?_ | refine Yg ?_ | refine Yh ?_ | refine Yi ?_ | refine Yj ?_ | refine Yk ?_ | refine Yl ?_ | refine Ym ?_ | refine Yn ?_ | refine Yo ?_ | refine Yp (h := ?_) | refine Yq ?_ | refine Yr ?_ | refine Ys ?_ | refine Zr hc (hk := ?_) | refine Zd hc (hk := ?_) | (refine Zc (ht := fun hb => ?_) (hf := fun hb => ?_) <;> (try simp at hb)) | fail) | (first | refine Zo hc (hk := ?_) | refine Zu hc (hk := ?_) | refine Ze hc (hk := ?_) | refine Zn hc (hk := ?_) | fail))
    · refine ⟨j + 1, by omega, by omega, run_back [0, 3, 19, 20] [] (by simp; exact Gives.mk) (by simp; exact Gives.mk) ?_⟩
      rw [hnx hj]
      simp
      omega
    all_goals (exfalso; omega)
  · rw [List.take_of_length_le (show s.length ≤ j by omega)]
    repeat' (first | (first | refine Ya ?_ | refine Yb ?_ | refine Yc ?_ | refine Yd ?_ | refine Ye ?_ | refine Yf ?_ | refine Yg ?_ | refine Yh ?_ | refine Yi ?_ | refine Yj ?_ | refine Yk ?_ | refine Yl ?_ | refine Ym ?_ | refine Yn ?_ | refine Yo ?_ | refine Yp (h := ?_) | refine Yq ?_ | refine Yr ?_ | refine Ys ?_ | refine Zr hc (hk := ?_) | refine Zd hc (hk := ?_) | (refine Zc (ht := fun hb => ?_) (hf := fun hb => ?_) <;> (try simp at hb)) | fail) | (first | refine Zo hc (hk := ?_) | refine Zu hc (hk := ?_) | refine Ze hc (hk := ?_) | refine Zn hc (hk := ?_) | fail))
    · exfalso; omega
    · rw [if_neg (by omega)]
      (refine Zl hc (hr := ?_))
      simp
    · rw [if_pos (by omega)]
      (refine Zl hc (hr := ?_))
      simp
end Go.Proofs.YtjbabjfmcganpaaGreatDoor
/-
  ADDRESS: normal forms of rows. (WITH run_drawN.)
-/
set_option linter.unusedSimpArgs false
set_option linter.unusedVariables false
namespace Go.Proofs.YtjbabjfmcganpaaGreatDoor
open Go.Lw Go.RowKit
set_option maxRecDepth 100000
set_option maxHeartbeats 1000000

/-- The number of a hexadecimal digit. -/
def hexV (c : UInt8) : UInt8 := if isDig c then c - 48 else if decide (97 ≤ c.toNat) then c - 97 + 10 else c - 65 + 10
/-! The normal form of a row. -/
def keepC (c : UInt8) : Bool := isLet c || isDig c || decide (c.toNat = 45) || decide (c.toNat = 46) || decide (c.toNat = 95) || decide (c.toNat = 126)
def bigH (n : Nat) : UInt8 := ([48, 49, 50, 51, 52, 53, 54, 55, 56, 57, 65, 66, 67, 68, 69, 70] : Bs)[n]?.getD 0
def two (h k : UInt8) : UInt8 := UInt8.ofNat (16 * (hexV h).toNat + (hexV k).toNat)
def normB (c : UInt8) : Bs := if keepC c = true then [c] else [37, bigH (c.toNat / 16), bigH (c.toNat % 16)]
def normR : Bs → Bs
  | [] => []
  | c :: r => if c = 37 then match r with
      | h :: k :: r2 => normB (two h k) ++ normR r2
      | r => c :: r
    else c :: normR r
end Go.Proofs.YtjbabjfmcganpaaGreatDoor
