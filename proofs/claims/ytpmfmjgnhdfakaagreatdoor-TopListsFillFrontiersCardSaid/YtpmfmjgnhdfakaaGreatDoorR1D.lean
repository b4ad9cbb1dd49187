/-
  CHAPTER 1's REFERENCE: rows, schemes. (WITH run_drawN.)
-/
import Derived.Test.YtpmfmjgnhdfakaaGreatDoorR1A
import Derived.Test.YtpmfmjgnhdfakaaGreatDoorAdG
import Derived.Test.YtpmfmjgnhdfakaaGreatDoorShAt
set_option linter.unusedSimpArgs false
set_option linter.unusedVariables false
namespace Go.Proofs.YtpmfmjgnhdfakaaGreatDoor
open Go.Lw Go.RowKit
set_option maxRecDepth 100000
set_option maxHeartbeats 1000000

/-! Rows, as the reference reads them. -/
def nw (w : Bs) (c : UInt8) : Bool := !w.contains c
theorem rowE_until {w : Bs} (hw : ∀ c, w.contains c = true → isHexB c = false) : ∀ r : Bs, rowE w r = rowE [] (r.takeWhile (nw w))
  | [] => rfl
  | c :: r => by
    by_cases h1 : w.contains c = true
    · rw [List.takeWhile_cons_of_neg (by unfold nw; rw [h1]; decide), rowE.eq_def]
      simp only
      rw [if_pos h1]
      rfl
    have h1' : nw w c = true := by unfold nw; simpa using h1
    rw [List.takeWhile_cons_of_pos h1', rowE.eq_def w, rowE.eq_def []]
    simp only
    rw [if_neg h1, if_neg (show ¬ ([] : Bs).contains c = true by simp)]
    by_cases h2 : badB c = true
    · rw [if_pos h2, if_pos h2]
    rw [if_neg h2, if_neg h2]
    by_cases h3 : c = 37
    · rw [if_pos h3, if_pos h3]
      match r with
      | [] => rfl
      | [h] =>
        by_cases hh : nw w h = true
        · rw [List.takeWhile_cons_of_pos hh]; rfl
        · rw [List.takeWhile_cons_of_neg hh]
      | h :: k :: r2 =>
        by_cases hh : nw w h = true
        · by_cases hk : nw w k = true
          · rw [List.takeWhile_cons_of_pos hh, List.takeWhile_cons_of_pos hk]
            simp only
            rw [rowE_until hw r2]
          · rw [List.takeWhile_cons_of_pos hh, List.takeWhile_cons_of_neg hk]
            have : isHexB k = false := hw k (by unfold nw at hk; simpa using hk)
            simp only
            rw [if_neg (by rw [this]; simp)]
        · rw [List.takeWhile_cons_of_neg hh]
          have : isHexB h = false := hw h (by unfold nw at hh; simpa using hh)
          simp only
          rw [if_neg (by rw [this]; simp)]
    · rw [if_neg h3, if_neg h3, rowE_until hw r]
theorem rowE_full : ∀ u : Bs, (rowE [] u).2 = true → (rowE [] u).1 = u.length
  | [], _ => rfl
  | c :: r, h => by
    rw [rowE.eq_def] at h ⊢
    simp only at h ⊢
    rw [if_neg (show ¬ ([] : Bs).contains c = true by simp)] at h ⊢
    by_cases h2 : badB c = true
    · rw [if_pos h2] at h; cases h
    rw [if_neg h2] at h ⊢
    by_cases h3 : c = 37
    · rw [if_pos h3] at h ⊢
      match r with
      | [] => cases h
      | [_] => cases h
      | x :: y :: r2 =>
        simp only at h ⊢
        by_cases h4 : isHexB x = true ∧ isHexB y = true
        · rw [if_pos h4] at h ⊢
          have := rowE_full r2 h
          simp [this]
        · rw [if_neg h4] at h; cases h
    · rw [if_neg h3] at h ⊢
      have := rowE_full r h
      simp [this]
theorem hex_row {c : UInt8} (h : isHexB c = true) : badB c = false ∧ ¬ c = 37 := by
  have h1 : ∀ n : Fin 256, isHexB (UInt8.ofNat n.val) = true → badB (UInt8.ofNat n.val) = false ∧ ¬ UInt8.ofNat n.val = 37 := by decide
  have h2 := h1 ⟨c.toNat, c.toNat_lt⟩
  simp only [UInt8.ofNat_toNat] at h2
  exact h2 h
theorem rowAt_hex {s : Bs} {j : Nat} (h : j < s.length) (hx : isHexB (s[j]?.getD 0) = true) : rowAt [] s j = rowAt [] s (j + 1) := by
  obtain ⟨h1, h2⟩ := hex_row hx
  rw [rowAt_step [] s j h, if_neg (by simp), if_neg (by rw [h1]; decide), if_neg h2]
/-- The first place at which a text is no row. -/
def rbad (s : Bs) : Int := if (rowE [] s).2 = true then -1 else (rowE [] s).1
theorem qHex_ok (c : UInt8) : FnOk Tryz.prog 202 [u8 c] (tru (isHexB c)) := by
  refine fnOk Tryz.func202 rfl (by kernel_rfl) Tryz.ntmps202 _ rfl (by simp) fun C hc => ?_
  repeat' (first | (first | refine Ya ?_ | refine Yb ?_ | refine Yc ?_ | refine Yd ?_ | refine Ye ?_ | refine Yf ?_ | refine Yg ?_ | refine Yh ?_ | refine Yi ?_ | refine Yj ?_ | refine Yk ?_ | refine Yl ?_ | refine Ym ?_ | refine Yn ?_ | refine Yo ?_ | refine Yp (h := ?_) | refine Yq ?_ | refine Yr ?_ | refine Ys ?_ | refine Zr hc (hk := ?_) | refine Zd hc (hk := ?_) | (refine Zc (ht := fun hb => ?_) (hf := fun hb => ?_) <;> (try simp at hb)) | fail) | (first | refine Zw hc (hf := by exact qDigit_ok _) (hk := ?_) | refine Zq hc (hf := by exact qDigit_ok _) (hk := ?_) | refine Zo hc (hk := ?_) | refine Zu hc (hk := ?_) | refine Ze hc (hk := ?_) | refine Zn hc (hk := ?_) | fail))
  (refine Zl hc (hr := ?_))
  refine res_bool ?_
  rw [Bool.eq_iff_iff]; cases h : isDig c <;> simp [isHexB, h] <;> omega
theorem qRowByte_ok (c : UInt8) : FnOk Tryz.prog 201 [u8 c] (tru (!badB c)) := by
  refine fnOk Tryz.func201 rfl (by kernel_rfl) Tryz.ntmps201 _ rfl (by simp) fun C hc => ?_
  have hn := has_iff [34, 35, 60, 62, 92, 94, 123, 124, 125] c
  have h96 := toNat_sign c 96 (by omega)
  have hm : noRow.contains c = true ↔ ([34, 35, 60, 62, 92, 94, 123, 124, 125] : Bs).contains c = true ∨ c = 96 := by simp [noRow, or_assoc]
  have hb := badB_iff c
  repeat' (first | (first | refine Ya ?_ | refine Yb ?_ | refine Yc ?_ | refine Yd ?_ | refine Ye ?_ | refine Yf ?_ | refine Yg ?_ | refine Yh ?_ | refine Yi ?_ | refine Yj ?_ | refine Yk ?_ | refine Yl ?_ | refine Ym ?_ | refine Yn ?_ | refine Yo ?_ | refine Yp (h := ?_) | refine Yq ?_ | refine Yr ?_ | refine Ys ?_ | refine Zr hc (hk := ?_) | refine Zd hc (hk := ?_) | (refine Zc (ht := fun hb => ?_) (hf := fun hb => ?_) <;> (try simp at hb)) | fail) | (first | refine Zw hc (hf := by exact indexByte_ok _ _) (hk := ?_) | refine Zq hc (hf := by exact indexByte_ok _ _) (hk := ?_) | refine Zo hc (hk := ?_) | refine Zu hc (hk := ?_) | refine Ze hc (hk := ?_) | refine Zn hc (hk := ?_) | fail))
  (refine Zl hc (hr := ?_))
  refine res_bool ?_
  rw [Bool.eq_iff_iff]
  rw [Bool.not_eq_true', ← Bool.not_eq_true, hb, hm, hn]
  simp only [show UInt8.ofNat 96 = (96 : UInt8) from rfl] at h96
  rw [← h96]
  simp
  omega
theorem qRowBad_ok (s : Bs) (hm : s.length ≤ 4611686018427387904) : FnOk Tryz.prog 190 [str s, u8 0] (int (rbad s)) := by
  refine fnOk Tryz.func190 rfl (by kernel_rfl) Tryz.ntmps190 _ rfl (by simp) fun C hc => ?_
  have e0 : rbad s = if (rowAt [] s 0).2 = true then -1 else ((rowAt [] s 0).1 : Int) := by rw [rowAt_zero]; rfl
  rw [e0]
  repeat' (first | (first | refine Ya ?_ | refine Yb ?_ | refine Yc ?_ | refine Yd ?_ | refine Ye ?_ | refine Yf ?_ | refine Yg ?_ | refine Yh ?_ | refine Yi ?_ | refine Yj ?_ | refine Yk ?_ | refine Yl ?_ | refine Ym ?_ | refine Yn ?_ | refine Yo ?_ | refine Yp (h := ?_) | refine Yq ?_ | refine Yr ?_ | refine Ys ?_ | refine Zr hc (hk := ?_) | refine Zd hc (hk := ?_) | (refine Zc (ht := fun hb => ?_) (hf := fun hb => ?_) <;> (try simp at hb)) | fail) | (first | refine Zo hc (hk := ?_) | refine Zu hc (hk := ?_) | refine Ze hc (hk := ?_) | refine Zn hc (hk := ?_) | fail))
  refine ewp_loop (fun j : Nat => ⟨[(0, .d (str s)), (1, .d (u8 0)), (5, .d (int j))], []⟩) (fun j => j ≤ s.length ∧ rowAt [] s 0 = rowAt [] s j) (fun j => s.length - j) 0 (by simp) (run_keep [0, 1, 5] [] (by simp; exact Gives.mk) (by simp; exact Gives.mk)) ?_
  rintro j ⟨h1, h2⟩
  rw [h2]
  have hst := fun h => rowAt_step [] s j h
  have hni : ¬ ([] : Bs).contains (s[j]?.getD 0) = true := by simp
  have h37 := toNat_sign (s[j]?.getD 0) 37 (by omega)
  simp only [show UInt8.ofNat 37 = (37 : UInt8) from rfl] at h37
  repeat' (first | (first | refine Ya ?_ | refine Yb ?_ | refine Yc ?_ | refine Yd ?_ | refine Ye ?_ | refine Yf ?_ | refine Yg ?_ | refine Yh ?_ | refine Yi ?_ | refine Yj ?_ | refine Yk ?_ | refine Yl ?_ | refine Ym ?_ | refine Yn ?_ | refine Yo ?_ | refine Yp (h := ?_) | refine Yq ?_ | refine Yr ?_ | refine Ys ?_ | refine Zr hc (hk := ?_) | refine Zd hc (hk := ?_) | (refine Zc (ht := fun hb => ?_) (hf := fun hb => ?_) <;> (try simp at hb)) | fail) | (first | refine Zw hc (hf := by first | exact qRowByte_ok _ | exact qHex_ok _) (hk := ?_) | refine Zq hc (hf := by first | exact qRowByte_ok _ | exact qHex_ok _) (hk := ?_) | refine Zo hc (hk := ?_) | refine Zu hc (hk := ?_) | refine Ze hc (hk := ?_) | refine Zn hc (hk := ?_) | fail))
  · have hbad : badB (s[j]?.getD 0) = true := by
      rcases hb with h | h
      · exact h
      · rw [badB_iff]; exact .inl (.inl (by omega))
    rw [hst (by omega), if_neg hni, if_pos hbad]
    (refine Zl hc (hr := ?_))
    simp
  · rename_i hlt hg
    have e : rowAt [] s j = (j, false) := by
      rw [hst (by omega), if_neg hni, if_neg (by rw [hg.1]; decide), if_pos (h37.1 (by omega)), if_neg (fun e => by
        rcases hb.2 with (h | h) | h
        · omega
        · rw [e.2.1] at h; cases h
        · rw [e.2.2] at h; cases h)]
    rw [e]
    (refine Zl hc (hr := ?_))
    simp
  · rename_i hlt hg
    refine ⟨j + 1, ⟨by omega, ?_⟩, by omega, run_back [0, 1, 5] [] (by simp; exact Gives.mk) (by simp; exact Gives.mk) (by simp)⟩
    rw [hst (by omega), if_neg hni, if_neg (by rw [hg.1]; decide)]
    by_cases h : s[j]?.getD 0 = 37
    · have h4 := hb (by have := h37.2 h; omega)
      rw [if_pos h, if_pos ⟨by omega, h4.1.2, h4.2⟩, rowAt_hex (by omega) h4.1.2, rowAt_hex (by omega) h4.2]
    · rw [if_neg h]
  · rw [rowAt_end [] s j (by omega)]
    (refine Zl hc (hr := ?_))
    simp
/-! Words. -/
def pass (t w : Bs) (i : Nat) : Int := if pmatch w (t.drop i) = w.length then -1 else ((i + pmatch w (t.drop i) : Nat) : Int)
end Go.Proofs.YtpmfmjgnhdfakaaGreatDoor
/-
  CHAPTER 1's REFERENCE: ports; the reader's methods. (WITH run_drawN.)
-/
set_option linter.unusedSimpArgs false
set_option linter.unusedVariables false
namespace Go.Proofs.YtpmfmjgnhdfakaaGreatDoor
open Go.Lw Go.RowKit
set_option maxRecDepth 100000
set_option maxHeartbeats 1000000

theorem decFrom_digits : ∀ (s : Bs) (acc : Nat), s.all isDig = true → Lib.decFrom acc s = some (s.foldl (fun n c => 10 * n + (c.toNat - 48)) acc)
  | [], acc, _ => rfl
  | c :: r, acc, h => by
    simp only [List.all_cons, Bool.and_eq_true] at h
    have hd : 48 ≤ c.toNat ∧ c.toNat ≤ 57 := by simpa [isDig] using h.1
    have e : Lib.digitVal c = some (c.toNat - 48) := by unfold Lib.digitVal; rw [if_pos hd]
    simp only [Lib.decFrom, e, List.foldl_cons]
    rw [decFrom_digits r _ h.2, Nat.mul_comm]
theorem atoi_digits {s : Bs} (h1 : 1 ≤ s.length) (h : s.all isDig = true) : Lib.atoi s = some (digN s : Int) := by
  cases s with
  | nil => simp at h1
  | cons c r =>
    have h2 := h
    simp only [List.all_cons, Bool.and_eq_true] at h2
    have hd : 48 ≤ c.toNat ∧ c.toNat ≤ 57 := by simpa [isDig] using h2.1
    have n1 : ¬ (c == 45) = true := by
      simp only [beq_iff_eq, ← UInt8.toNat_inj]
      simp
      omega
    have n2 : ¬ (c == 43) = true := by
      simp only [beq_iff_eq, ← UInt8.toNat_inj]
      simp
      omega
    unfold Lib.atoi
    simp only
    rw [if_neg n1, if_neg n2]
    unfold Lib.decNat
    rw [if_neg (by simp), decFrom_digits (c :: r) 0 h]
    rfl
theorem atoi_ok (s : Bs) (h1 : 1 ≤ s.length) (h5 : s.length ≤ 5) (h : s.all isDig = true) : FnOk Tryz.prog 189 [str s] (.tup [int (digN s), .lit .nilIface]) :=
  ⟨by kernel_rfl, fun ok w vs _ hstd ha => by
    have h0 : ArgsRd w ok ([Value.string (bs s)].map D.lit) vs := ha
    obtain rfl : vs = #[.string (bs s)] := lits_rd h0
    refine (Tryz.strconv_Atoi (bs s) (digN s) (by simp; omega) (by simpa using atoi_digits h1 h) w).mono fun e w' ⟨he, t, hw⟩ => ⟨_, he, ?_, ?_⟩
    · exact hw ▸ ⟨rfl, rfl, rfl, by rw [Lib.bytesWorld_size]; omega, fun k hk => Lib.bytesWorld_at_old w _ t k hk⟩
    · exact .tup _ _ (fun i => (#[Value.int .i64 (digN s), .nilIface])[i]?.getD undef) rfl (fun i hi => by
        match i, hi with
        | 0, _ => rfl
        | 1, _ => rfl) (fun i d hd => by
        match i, hd with
        | 0, hd => cases hd; exact .lit _
        | 1, hd => cases hd; exact .lit _)⟩
theorem qPort_ok (s : Bs) (hm : s.length ≤ 9223372036854775807) : FnOk Tryz.prog 167 [str s] (tru (decide (portB s ≠ 0))) := by
  refine fnOk Tryz.func167 rfl (by kernel_rfl) Tryz.ntmps167 _ rfl (by simp) fun C hc => ?_
  by_cases h0 : s = []
  · subst h0
    rw [show (decide (portB [] ≠ 0)) = false from rfl]
    repeat' (first | (first | refine Ya ?_ | refine Yb ?_ | refine Yc ?_ | refine Yd ?_ | refine Ye ?_ | refine Yf ?_ | refine Yg ?_ | refine Yh ?_ | refine Yi ?_ | refine Yj ?_ | refine Yk ?_ | refine Yl ?_ | refine Ym ?_ | refine Yn ?_ | refine Yo ?_ | refine Yp (h := ?_) | refine Yq ?_ | refine Yr ?_ | refine Ys ?_ | refine Zr hc (hk := ?_) | refine Zd hc (hk := ?_) | (refine Zc (ht := fun hb => ?_) (hf := fun hb => ?_) <;> (try simp at hb)) | fail) | (first | refine Zo hc (hk := ?_) | refine Zu hc (hk := ?_) | refine Ze hc (hk := ?_) | refine Zn hc (hk := ?_) | fail))
    all_goals try contradiction
    (refine Zl hc (hr := ?_))
    simp
  have hpos : 0 < s.length := List.length_pos_iff.2 h0
  by_cases h5 : s.length ≤ 5
  rotate_left
  · rw [portB_no s (fun e => h5 e.2.1)]
    repeat' (first | (first | refine Ya ?_ | refine Yb ?_ | refine Yc ?_ | refine Yd ?_ | refine Ye ?_ | refine Yf ?_ | refine Yg ?_ | refine Yh ?_ | refine Yi ?_ | refine Yj ?_ | refine Yk ?_ | refine Yl ?_ | refine Ym ?_ | refine Yn ?_ | refine Yo ?_ | refine Yp (h := ?_) | refine Yq ?_ | refine Yr ?_ | refine Ys ?_ | refine Zr hc (hk := ?_) | refine Zd hc (hk := ?_) | (refine Zc (ht := fun hb => ?_) (hf := fun hb => ?_) <;> (try simp at hb)) | fail) | (first | refine Zo hc (hk := ?_) | refine Zu hc (hk := ?_) | refine Ze hc (hk := ?_) | refine Zn hc (hk := ?_) | fail))
    · (refine Zl hc (hr := ?_))
      simp
    · exfalso; omega
  repeat' (first | (first | refine Ya ?_ | refine Yb ?_ | refine Yc ?_ | refine Yd ?_ | refine Ye ?_ | refine Yf ?_ | refine Yg ?_ | refine Yh ?_ | refine Yi ?_ | refine Yj ?_ | refine Yk ?_ | refine Yl ?_ | refine Ym ?_ | refine Yn ?_ | refine Yo ?_ | refine Yp (h := ?_) | refine Yq ?_ | refine Yr ?_ | refine Ys ?_ | refine Zr hc (hk := ?_) | refine Zd hc (hk := ?_) | (refine Zc (ht := fun hb => ?_) (hf := fun hb => ?_) <;> (try simp at hb)) | fail) | (first | refine Zo hc (hk := ?_) | refine Zu hc (hk := ?_) | refine Ze hc (hk := ?_) | refine Zn hc (hk := ?_) | fail))
  · exfalso
    rcases hb with h | h
    · exact h0 h
    · omega
  refine ewp_loop (fun j : Nat => ⟨[(0, .d (str s)), (3, .d (int j))], []⟩) (fun j => j ≤ s.length ∧ (s.take j).all isDig = true) (fun j => s.length - j) 0 (by simp) (run_keep [0, 3] [] (by simp; exact Gives.mk) (by simp; exact Gives.mk)) ?_
  rintro j ⟨h1, h2⟩
  have hn := fun h => all_next isDig s 0 j h
  have hno := fun h => all_not isDig s 0 j h
  by_cases hj : j < s.length
  · repeat' (first | (first | refine Ya ?_ | refine Yb ?_ | refine Yc ?_ | refine Yd ?_ | refine Ye ?_ | refine Yf ?_ | refine Yg ?_ | refine Yh ?_ | refine Yi ?_ | refine Yj ?_ | refine Yk ?_ | refine Yl ?_ | refine Ym ?_ | refine Yn ?_ | refine Yo ?_ | refine Yp (h := ?_) | refine Yq ?_ | refine Yr ?_ | refine Ys ?_ | refine Zr hc (hk := ?_) | refine Zd hc (hk := ?_) | (refine Zc (ht := fun hb => ?_) (hf := fun hb => ?_) <;> (try simp at hb)) | fail) | (first | refine Zw hc (hf := by exact qDigit_ok _) (hk := ?_) | refine Zq hc (hf := by exact qDigit_ok _) (hk := ?_) | refine Zo hc (hk := ?_) | refine Zu hc (hk := ?_) | refine Ze hc (hk := ?_) | refine Zn hc (hk := ?_) | fail))
    · rw [portB_no s (fun e => by rw [hno hj hb] at e; cases e.2.2)]
      (refine Zl hc (hr := ?_))
      simp
    · exact ⟨j + 1, ⟨by omega, by rw [hn hj, h2, hb]; rfl⟩, by omega, run_back [0, 3] [] (by simp; exact Gives.mk) (by simp; exact Gives.mk) (by simp)⟩
    all_goals (exfalso; omega)
  · rw [List.take_of_length_le (by omega)] at h2
    have hat := atoi_ok s hpos h5 h2
    rw [portB_yes s ⟨by omega, h5, h2⟩]
    generalize digN s = n at hat
    repeat' (first | (first | refine Ya ?_ | refine Yb ?_ | refine Yc ?_ | refine Yd ?_ | refine Ye ?_ | refine Yf ?_ | refine Yg ?_ | refine Yh ?_ | refine Yi ?_ | refine Yj ?_ | refine Yk ?_ | refine Yl ?_ | refine Ym ?_ | refine Yn ?_ | refine Yo ?_ | refine Yp (h := ?_) | refine Yq ?_ | refine Yr ?_ | refine Ys ?_ | refine Zr hc (hk := ?_) | refine Zd hc (hk := ?_) | (refine Zc (ht := fun hb => ?_) (hf := fun hb => ?_) <;> (try simp at hb)) | fail) | (first | refine Zw hc (hf := by exact hat) (hk := ?_) | refine Zq hc (hf := by exact hat) (hk := ?_) | refine Zo hc (hk := ?_) | refine Zu hc (hk := ?_) | refine Ze hc (hk := ?_) | refine Zn hc (hk := ?_) | fail))
    all_goals try (exfalso; omega)
    (refine Zl hc (hr := ?_))
    refine res_bool ?_
    rw [Bool.eq_iff_iff]
    split <;> simp <;> omega
abbrev rdqL (t : Bs) (i b : Int) : List V := [.d (str t), .d (int i), .d (int b)]
/-- The first fault of a row is kept. -/
def keepB (b : Int) (i : Nat) (u : Bs) : Int := if 0 ≤ rbad u ∧ b < 0 then i + rbad u else b
end Go.Proofs.YtpmfmjgnhdfakaaGreatDoor
