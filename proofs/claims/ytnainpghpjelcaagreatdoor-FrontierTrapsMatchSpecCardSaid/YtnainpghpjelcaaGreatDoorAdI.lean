/-
  ADDRESS: normal forms of rows. (WITH run_drawN.)
-/
import Derived.Test.YtnainpghpjelcaaGreatDoorAdA
import Derived.Test.YtnainpghpjelcaaGreatDoorLwFlt
set_option linter.unusedSimpArgs false
set_option linter.unusedVariables false
namespace Go.Proofs.YtnainpghpjelcaaGreatDoor
open Go.Lw Go.RowKit
set_option maxRecDepth 100000
set_option maxHeartbeats 1000000

/-- The number of a hexadecimal digit. -/
def hexV (c : UInt8) : UInt8 := if isDig c then c - 48 else if decide (97 ≤ c.toNat) then c - 97 + 10 else c - 65 + 10
theorem hexV_nat {c : UInt8} (h : isHexB c = true) : (hexV c).toNat = if isDig c = true then c.toNat - 48 else if 97 ≤ c.toNat then c.toNat - 87 else c.toNat - 55 := by
  have h1 : ∀ n : Fin 256, isHexB (UInt8.ofNat n.val) = true → (hexV (UInt8.ofNat n.val)).toNat = if isDig (UInt8.ofNat n.val) = true then (UInt8.ofNat n.val).toNat - 48 else if 97 ≤ (UInt8.ofNat n.val).toNat then (UInt8.ofNat n.val).toNat - 87 else (UInt8.ofNat n.val).toNat - 55 := by decide
  have h2 := h1 ⟨c.toNat, c.toNat_lt⟩
  simp only [UInt8.ofNat_toNat] at h2
  exact h2 h
theorem hexV_lt {c : UInt8} (h : isHexB c = true) : (hexV c).toNat < 16 := by
  have h1 : ∀ n : Fin 256, isHexB (UInt8.ofNat n.val) = true → (hexV (UInt8.ofNat n.val)).toNat < 16 := by decide
  have h2 := h1 ⟨c.toNat, c.toNat_lt⟩
  simp only [UInt8.ofNat_toNat] at h2
  exact h2 h
theorem value_ok (c : UInt8) (h : isHexB c = true) : FnOk Tryz.prog 283 [u8 c] (u8 (hexV c)) := by
  refine fnOk Tryz.func283 rfl (by kernel_rfl) Tryz.ntmps283 _ rfl (by simp) fun C hc => ?_
  have hv := hexV_nat h
  have hlt := c.toNat_lt
  have hr : 48 ≤ c.toNat ∧ (isDig c = false → 65 ≤ c.toNat) ∧ c.toNat ≤ 102 := by
    simp only [isHexB, isDig, Bool.or_eq_true, Bool.and_eq_true, decide_eq_true_eq, Bool.and_eq_false_iff, decide_eq_false_iff_not] at h ⊢
    omega
  have hd0 := adDigit_ok c
  cases hd : isDig c with
  | true =>
    rw [hd] at hd0
    rw [if_pos hd] at hv
    repeat' (first | (first | refine Ya ?_ | refine Yb ?_ | refine Yc ?_ | refine Yd ?_ | refine Ye ?_ | refine Yf ?_ | refine Yg ?_ | refine Yh ?_ | refine Yi ?_ | refine Yj ?_ | refine Yk ?_ | refine Yl ?_ | refine Ym ?_ | refine Yn ?_ | refine Yo ?_ | refine Yp (h := ?_) | refine Yq ?_ | refine Yr ?_ | refine Ys ?_ | refine Zr hc (hk := ?_) | refine Zd hc (hk := ?_) | (refine Zc (ht := fun hb => ?_) (hf := fun hb => ?_) <;> (try simp at hb)) | fail) | (first | refine Zw hc (hf := by exact hd0) (hk := ?_) | refine Zq hc (hf := by exact hd0) (hk := ?_) | refine Zo hc (hk := ?_) | refine Zu hc (hk := ?_) | refine Ze hc (hk := ?_) | refine Zn hc (hk := ?_) | fail))
    all_goals try contradiction
    (refine Zl hc (hr := ?_))
    simp
    omega
  | false =>
    have h65 := hr.2.1 hd
    rw [hd] at hd0
    rw [if_neg (by rw [hd]; decide)] at hv
    repeat' (first | (first | refine Ya ?_ | refine Yb ?_ | refine Yc ?_ | refine Yd ?_ | refine Ye ?_ | refine Yf ?_ | refine Yg ?_ | refine Yh ?_ | refine Yi ?_ | refine Yj ?_ | refine Yk ?_ | refine Yl ?_ | refine Ym ?_ | refine Yn ?_ | refine Yo ?_ | refine Yp (h := ?_) | refine Yq ?_ | refine Yr ?_ | refine Ys ?_ | refine Zr hc (hk := ?_) | refine Zd hc (hk := ?_) | (refine Zc (ht := fun hb => ?_) (hf := fun hb => ?_) <;> (try simp at hb)) | fail) | (first | refine Zw hc (hf := by exact hd0) (hk := ?_) | refine Zq hc (hf := by exact hd0) (hk := ?_) | refine Zo hc (hk := ?_) | refine Zu hc (hk := ?_) | refine Ze hc (hk := ?_) | refine Zn hc (hk := ?_) | fail))
    all_goals try contradiction
    · rw [if_pos (by omega)] at hv
      (refine Zl hc (hr := ?_))
      simp
      omega
    · rw [if_neg (by omega)] at hv
      (refine Zl hc (hr := ?_))
      simp
      omega
/-! The normal form of a row. -/
def keepC (c : UInt8) : Bool := isLet c || isDig c || decide (c.toNat = 45) || decide (c.toNat = 46) || decide (c.toNat = 95) || decide (c.toNat = 126)
def bigH (n : Nat) : UInt8 := ([48, 49, 50, 51, 52, 53, 54, 55, 56, 57, 65, 66, 67, 68, 69, 70] : Bs)[n]?.getD 0
def two (h k : UInt8) : UInt8 := UInt8.ofNat (16 * (hexV h).toNat + (hexV k).toNat)
def normB (c : UInt8) : Bs := if keepC c = true then [c] else [37, bigH (c.toNat / 16), bigH (c.toNat % 16)]
def normR : Bs → Bs
  | [] => []
  | c :: r => if c = 37 then match r with
      | h :: k :: r2 => normB (two h k) ++ normR r2
      | r => c :: r
    else c :: normR r
/-- Its bytes as the loop makes them: from a place on. -/
theorem normR_at (s : Bs) (j : Nat) (h : j < s.length) (h37 : ¬ s[j]?.getD 0 = 37) : normR (s.drop j) = s[j]?.getD 0 :: normR (s.drop (j + 1)) := by
  rw [show s.drop j = s[j]?.getD 0 :: s.drop (j + 1) by rw [List.drop_eq_getElem_cons h]; simp [h], normR.eq_def]
  simp only
  rw [if_neg h37]
theorem normR_pc (s : Bs) (j : Nat) (h : j + 2 < s.length) (h37 : s[j]?.getD 0 = 37) : normR (s.drop j) = normB (two (s[j + 1]?.getD 0) (s[j + 2]?.getD 0)) ++ normR (s.drop (j + 3)) := by
  have d : ∀ i, i < s.length → s.drop i = s[i]?.getD 0 :: s.drop (i + 1) := fun i hi => by rw [List.drop_eq_getElem_cons hi]; simp [hi]
  rw [d j (by omega), d (j + 1) (by omega), d (j + 2) (by omega), normR.eq_def]
  simp only
  rw [if_pos h37]
/-- Numbers of the walk. -/
theorem two_num {h k : UInt8} (hh : isHexB h = true) (hk : isHexB k = true) :
    IntKind.u8.wrap (((IntKind.u8.wrap (((hexV h).toNat : Int) * 2 ^ min 4 IntKind.u8.bits) % 2 ^ IntKind.u8.bits).toNat ||| (hexV k).toNat % 2 ^ IntKind.u8.bits : Nat) : Int) = ((two h k).toNat : Int) := by
  have h1 := hexV_lt hh
  have h2 := hexV_lt hk
  unfold two
  generalize (hexV h).toNat = x at h1
  generalize (hexV k).toNat = y at h2
  have key : ∀ x y : Fin 16, IntKind.u8.wrap (((IntKind.u8.wrap ((x.val : Int) * 2 ^ min 4 IntKind.u8.bits) % 2 ^ IntKind.u8.bits).toNat ||| y.val % 2 ^ IntKind.u8.bits : Nat) : Int) = ((UInt8.ofNat (16 * x.val + y.val)).toNat : Int) := by decide
  exact key ⟨x, h1⟩ ⟨y, h2⟩
theorem hi_num (c : UInt8) : (c.toNat : Int).fdiv (2 ^ min 4 IntKind.u8.bits) = ((c.toNat / 16 : Nat) : Int) := by
  have key : ∀ n : Fin 256, (n.val : Int).fdiv (2 ^ min 4 IntKind.u8.bits) = ((n.val / 16 : Nat) : Int) := by decide
  exact key ⟨c.toNat, c.toNat_lt⟩
theorem lo_num (c : UInt8) : IntKind.u8.wrap ((c.toNat % 2 ^ IntKind.u8.bits &&& 15 % 2 ^ IntKind.u8.bits : Nat) : Int) = ((c.toNat % 16 : Nat) : Int) := by
  have key : ∀ n : Fin 256, IntKind.u8.wrap ((n.val % 2 ^ IntKind.u8.bits &&& 15 % 2 ^ IntKind.u8.bits : Nat) : Int) = ((n.val % 16 : Nat) : Int) := by decide
  exact key ⟨c.toNat, c.toNat_lt⟩
theorem one_row : ∀ m : Bs, m.map (oneByte ∘ byteRow) = m
  | [] => rfl
  | c :: m => by rw [List.map_cons, one_row m]; simp [oneByte, byteRow]
theorem row_one {s : Bs} {j : Nat} (h : j < s.length) (hr : isRow [] (s.drop j)) (h37 : ¬ s[j]?.getD 0 = 37) : isRow [] (s.drop (j + 1)) := by
  unfold isRow at hr ⊢
  rw [rowE_at [] s j h, if_neg (by simp)] at hr
  split at hr
  · have := congrArg Prod.snd hr; cases this
  · have e1 := congrArg Prod.fst hr
    have e2 := congrArg Prod.snd hr
    simp only [List.length_drop] at e1 e2 ⊢
    exact Prod.ext (by simp only; omega) e2
theorem row_three {s : Bs} {j : Nat} (h : j < s.length) (hr : isRow [] (s.drop j)) (h37 : s[j]?.getD 0 = 37) : j + 2 < s.length ∧ isHexB (s[j + 1]?.getD 0) = true ∧ isHexB (s[j + 2]?.getD 0) = true ∧ isRow [] (s.drop (j + 3)) := by
  unfold isRow at hr ⊢
  rw [rowE_at [] s j h, if_neg (by simp)] at hr
  split at hr
  · have := congrArg Prod.snd hr; cases this
  · split at hr
    · rename_i h3
      have e1 := congrArg Prod.fst hr
      have e2 := congrArg Prod.snd hr
      simp only [List.length_drop] at e1 e2 ⊢
      exact ⟨h3.1, h3.2.1, h3.2.2, Prod.ext (by simp only; omega) e2⟩
    · have := congrArg Prod.snd hr; cases this
theorem normR_ok (s : Bs) (hm : s.length ≤ 100000) (hr : isRow [] s) : FnOk Tryz.prog 253 [str s] (str (normR s)) := by
  refine fnOk Tryz.func253 rfl (by kernel_rfl) Tryz.ntmps253 _ rfl (by simp) fun C hc => ?_
  repeat' (first | (first | refine Ya ?_ | refine Yb ?_ | refine Yc ?_ | refine Yd ?_ | refine Ye ?_ | refine Yf ?_ | refine Yg ?_ | refine Yh ?_ | refine Yi ?_ | refine Yj ?_ | refine Yk ?_ | refine Yl ?_ | refine Ym ?_ | refine Yn ?_ | refine Yo ?_ | refine Yp (h := ?_) | refine Yq ?_ | refine Yr ?_ | refine Ys ?_ | refine Zr hc (hk := ?_) | refine Zd hc (hk := ?_) | (refine Zc (ht := fun hb => ?_) (hf := fun hb => ?_) <;> (try simp at hb)) | fail) | (first | refine Zo hc (hk := ?_) | refine Zu hc (hk := ?_) | refine Ze hc (hk := ?_) | refine Zn hc (hk := ?_) | fail))
  refine ewp_loop (fun x : Nat × Bs => ⟨[(0, .d (str s)), (3, .os 40000 x.2.length), (4, .d (int x.1))], [(40000, .own 5 1 (true, [.lit (.int .u8 0)]) (x.2.map byteRow))]⟩) (fun x => x.1 ≤ s.length ∧ isRow [] (s.drop x.1) ∧ normR s = x.2 ++ normR (s.drop x.1) ∧ x.2.length ≤ x.1) (fun x => s.length - x.1) (0, []) ⟨by simp, by simpa using hr, by simp, by simp⟩ (run_keepB [(3, none, 40000, 5, [.lit (.int .u8 0)])] [0, 3, 4] [40000] (by simp; exact Gives.mk) (by simp; exact Gives.mk) (by simp; exact Gives.mk)) ?_
  rintro ⟨j, m⟩ ⟨h1, h2, h3, h4⟩
  simp only at h1 h2 h3 h4 ⊢
  by_cases hj : j < s.length
  rotate_left
  · rw [List.drop_of_length_le (by omega)] at h3
    rw [h3]
    repeat' (first | (first | refine Ya ?_ | refine Yb ?_ | refine Yc ?_ | refine Yd ?_ | refine Ye ?_ | refine Yf ?_ | refine Yg ?_ | refine Yh ?_ | refine Yi ?_ | refine Yj ?_ | refine Yk ?_ | refine Yl ?_ | refine Ym ?_ | refine Yn ?_ | refine Yo ?_ | refine Yp (h := ?_) | refine Yq ?_ | refine Yr ?_ | refine Ys ?_ | refine Zr hc (hk := ?_) | refine Zd hc (hk := ?_) | (refine Zc (ht := fun hb => ?_) (hf := fun hb => ?_) <;> (try simp at hb)) | fail) | (first | refine Zo hc (hk := ?_) | refine Zu hc (hk := ?_) | refine Ze hc (hk := ?_) | refine Zn hc (hk := ?_) | fail))
    all_goals try (exfalso; omega)
    rw [show normR [] = ([] : Bs) from rfl, List.append_nil]
    (refine Zl hc (hr := ?_))
    simp [one_row]
  by_cases h37 : s[j]?.getD 0 = 37
  rotate_left
  · have e := normR_at s j hj h37
    have h37' : ¬ (((s[j]?.getD 0).toNat : Int) = 37) := fun x => h37 (UInt8.toNat_inj.1 (by simp; omega))
    repeat' (first | (first | refine Ya ?_ | refine Yb ?_ | refine Yc ?_ | refine Yd ?_ | refine Ye ?_ | refine Yf ?_ | refine Yg ?_ | refine Yh ?_ | refine Yi ?_ | refine Yj ?_ | refine Yk ?_ | refine Yl ?_ | refine Ym ?_ | refine Yn ?_ | refine Yo ?_ | refine Yp (h := ?_) | refine Yq ?_ | refine Yr ?_ | refine Ys ?_ | refine Zr hc (hk := ?_) | refine Zd hc (hk := ?_) | (refine Zc (ht := fun hb => ?_) (hf := fun hb => ?_) <;> (try simp at hb)) | fail) | (first | refine Zo hc (hk := ?_) | refine Zu hc (hk := ?_) | refine Ze hc (hk := ?_) | refine Zn hc (hk := ?_) | fail))
    all_goals try (exfalso; omega)
    refine ⟨(j + 1, m ++ [s[j]?.getD 0]), ⟨by simp; omega, row_one hj h2 h37, by rw [h3, e]; simp, by simp; omega⟩, by simp; omega, run_back [0, 3, 4] [40000] (by simp; exact Gives.mk) (by simp; exact Gives.mk) (by simp)⟩
  · obtain ⟨g1, g2, g3, g4⟩ := row_three hj h2 h37
    have e := normR_pc s j g1 h37
    have h37' : (((s[j]?.getD 0).toNat : Int) = 37) := by rw [h37]; rfl
    have hn := two_num g2 g3
    repeat' (first | (first | refine Ya ?_ | refine Yb ?_ | refine Yc ?_ | refine Yd ?_ | refine Ye ?_ | refine Yf ?_ | refine Yg ?_ | refine Yh ?_ | refine Yi ?_ | refine Yj ?_ | refine Yk ?_ | refine Yl ?_ | refine Ym ?_ | refine Yn ?_ | refine Yo ?_ | refine Yp (h := ?_) | refine Yq ?_ | refine Yr ?_ | refine Ys ?_ | refine Zr hc (hk := ?_) | refine Zd hc (hk := ?_) | (refine Zc (ht := fun hb => ?_) (hf := fun hb => ?_) <;> (try simp at hb)) | fail) | (first | refine Zw hc (hf := by first | exact value_ok _ g2 | exact value_ok _ g3) (hk := ?_) | refine Zq hc (hf := by first | exact value_ok _ g2 | exact value_ok _ g3) (hk := ?_) | refine Zo hc (hk := ?_) | refine Zu hc (hk := ?_) | refine Ze hc (hk := ?_) | refine Zn hc (hk := ?_) | fail))
    all_goals try (exfalso; omega)
    rw [hn]
    generalize two (s[j + 1]?.getD 0) (s[j + 2]?.getD 0) = c at e
    repeat' (first | (first | refine Ya ?_ | refine Yb ?_ | refine Yc ?_ | refine Yd ?_ | refine Ye ?_ | refine Yf ?_ | refine Yg ?_ | refine Yh ?_ | refine Yi ?_ | refine Yj ?_ | refine Yk ?_ | refine Yl ?_ | refine Ym ?_ | refine Yn ?_ | refine Yo ?_ | refine Yp (h := ?_) | refine Yq ?_ | refine Yr ?_ | refine Ys ?_ | refine Zr hc (hk := ?_) | refine Zd hc (hk := ?_) | (refine Zc (ht := fun hb => ?_) (hf := fun hb => ?_) <;> (try simp at hb)) | fail) | (first | refine Zw hc (hf := by first | exact adLetter_ok _ | exact adDigit_ok _) (hk := ?_) | refine Zq hc (hf := by first | exact adLetter_ok _ | exact adDigit_ok _) (hk := ?_) | refine Zo hc (hk := ?_) | refine Zu hc (hk := ?_) | refine Ze hc (hk := ?_) | refine Zn hc (hk := ?_) | fail))
    · have hk : keepC c = true := by
        rcases hb with ((((h | h) | h) | h) | h) | h
        · simp [keepC, h]
        · simp [keepC, h]
        · simp [keepC, show c.toNat = 45 by omega]
        · simp [keepC, show c.toNat = 46 by omega]
        · simp [keepC, show c.toNat = 95 by omega]
        · simp [keepC, show c.toNat = 126 by omega]
      have hB : normB c = [c] := by unfold normB; rw [if_pos hk]
      rw [hB] at e
      refine ⟨(j + 3, m ++ [c]), ⟨by simp; omega, g4, by rw [h3, e]; simp, by simp; omega⟩, by simp; omega, run_back [0, 3, 4] [40000] (by simp; exact Gives.mk) (by simp; exact Gives.mk) (by simp; omega)⟩
    · have hk : keepC c = false := by
        have n1 : ¬ c.toNat = 45 := by omega
        have n2 : ¬ c.toNat = 46 := by omega
        have n3 : ¬ c.toNat = 95 := by omega
        have n4 : ¬ c.toNat = 126 := by omega
        simp [keepC, hb.1.1.1.1.1, hb.1.1.1.1.2, n1, n2, n3, n4]
      have hB : normB c = [37, bigH (c.toNat / 16), bigH (c.toNat % 16)] := by unfold normB; rw [if_neg (by rw [hk]; decide)]
      rw [hB] at e
      have hi := hi_num c
      have lo := lo_num c
      have hcl := c.toNat_lt
      have hd1 : c.toNat / 16 < 16 := by omega
      have hd2 : c.toNat % 16 < 16 := by omega
      clear hn
      (apply run_drawAny 10 hc (by kernel_rfl) rfl; (focus (refine run_anyM 0 hc rfl (by kernel_rfl) rfl (by first | exact .inl rfl | exact .inr rfl) (by simp [hi, lo]; exact Gives.mk) (by simp) (by simp [hi, lo]; exact Gives.mk) ?_; refine run_anyM 1 hc rfl (by kernel_rfl) rfl (by first | exact .inl rfl | exact .inr rfl) (by simp [hi, lo]; exact Gives.mk) (by simp) (by simp [hi, lo]; exact Gives.mk) ?_; refine run_anyP 2 hc rfl (by kernel_rfl) rfl (by simp [hi, lo]; exact Gives.mk) (by first | exact True.intro | omega | (simp; done) | (simp; omega) | (simp at *; omega)) (by simp) (by simp) (by simp [hi, lo]; exact Gives.mk) ?_; refine run_anyP 3 hc rfl (by kernel_rfl) rfl (by simp [hi, lo]; exact Gives.mk) (by first | exact True.intro | omega | (simp; done) | (simp; omega) | (simp at *; omega)) (by simp) (by simp) (by simp [hi, lo]; exact Gives.mk) ?_; refine run_anyM 4 hc rfl (by kernel_rfl) rfl (by first | exact .inl rfl | exact .inr rfl) (by simp [hi, lo]; exact Gives.mk) (by simp) (by simp [hi, lo]; exact Gives.mk) ?_; refine run_anyP 5 hc rfl (by kernel_rfl) rfl (by simp [hi, lo]; exact Gives.mk) (by first | exact True.intro | omega | (simp; done) | (simp; omega) | (simp at *; omega)) (by simp) (by simp) (by simp [hi, lo]; exact Gives.mk) ?_; refine run_anyP 6 hc rfl (by kernel_rfl) rfl (by simp [hi, lo]; exact Gives.mk) (by first | exact True.intro | omega | (simp; done) | (simp; omega) | (simp at *; omega)) (by simp) (by simp) (by simp [hi, lo]; exact Gives.mk) ?_; refine anyW_all [7] (by kernel_rfl) rfl ?_; (focus (refine run_stepW hc rfl (by simp [hi, lo]; exact Ends.go) (by first | exact True.intro | omega | (simp; done) | (simp; omega) | (simp at *; omega)) ?_; refine anyW_all [8] (by kernel_rfl) rfl ?_; (focus (refine run_stepW hc rfl (by simp [hi, lo]; exact Ends.go) (by first | exact True.intro | omega | (simp; done) | (simp; omega) | (simp at *; omega)) ?_; refine run_anyM 9 hc rfl (by kernel_rfl) rfl (by first | exact .inl rfl | exact .inr rfl) (by simp [hi, lo]; exact Gives.mk) (by simp) (by simp [hi, lo]; exact Gives.mk) ?_; refine anyW_done (by kernel_rfl) ?_; exact run_keep [0, 3, 4] [40000] (by simp [hi, lo]; try exact Gives.mk) (by simp [hi, lo]; try exact Gives.mk))))))))
      repeat' (first | (first | refine Ya ?_ | refine Yb ?_ | refine Yc ?_ | refine Yd ?_ | refine Ye ?_ | refine Yf ?_ | refine Yg ?_ | refine Yh ?_ | refine Yi ?_ | refine Yj ?_ | refine Yk ?_ | refine Yl ?_ | refine Ym ?_ | refine Yn ?_ | refine Yo ?_ | refine Yp (h := ?_) | refine Yq ?_ | refine Yr ?_ | refine Ys ?_ | refine Zr hc (hk := ?_) | refine Zd hc (hk := ?_) | (refine Zc (ht := fun hb => ?_) (hf := fun hb => ?_) <;> (try simp at hb)) | fail) | (first | refine Zo hc (hk := ?_) | refine Zu hc (hk := ?_) | refine Ze hc (hk := ?_) | refine Zn hc (hk := ?_) | fail))
      have e1 : ((c.toNat : Int) / 16).toNat = c.toNat / 16 := by omega
      have e2 : ((c.toNat : Int) % 16).toNat = c.toNat % 16 := by omega
      refine ⟨(j + 3, m ++ [37, bigH (c.toNat / 16), bigH (c.toNat % 16)]), ⟨by simp; omega, g4, by rw [h3, e]; simp, by simp; omega⟩, by simp; omega, run_back [0, 3, 4] [40000] (by simp; exact Gives.mk) (by simp; exact Gives.mk) (by simp [bigH, hi, lo, e1, e2]; omega)⟩
end Go.Proofs.YtnainpghpjelcaaGreatDoor
