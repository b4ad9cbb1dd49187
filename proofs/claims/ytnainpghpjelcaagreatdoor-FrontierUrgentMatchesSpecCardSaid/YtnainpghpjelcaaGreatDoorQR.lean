/-
  CHAPTER 1's REFERENCE: the normal form of a row. (WITH run_drawN.)
-/
import Derived.Test.YtnainpghpjelcaaGreatDoorAdL
import Derived.Test.YtnainpghpjelcaaGreatDoorR1D
import Derived.Test.YtnainpghpjelcaaGreatDoorQB
import Derived.Test.YtnainpghpjelcaaGreatDoorAdO
set_option linter.unusedSimpArgs false
set_option linter.unusedVariables false
namespace Go.Proofs.YtnainpghpjelcaaGreatDoor
open Go.Lw Go.RowKit
set_option maxRecDepth 100000
set_option maxHeartbeats 1000000

theorem hex_128 {c : UInt8} (h : isHexB c = true) : c.toNat < 128 := byte_all (p := fun c => isHexB c = true → c.toNat < 128) (by decide) c h
theorem enc_128 {c : UInt8} (h : c.toNat < 128) : Utf8.encode (c.toNat : Int) = bs [c] := by
  have key : ∀ n : Fin 128, (Utf8.encode (n.val : Int)).data.toList = [UInt8.ofNat n.val] := by decide
  have h2 := key ⟨c.toNat, h⟩
  simp only [UInt8.ofNat_toNat] at h2
  apply ByteArray.ext
  apply Array.ext'
  exact h2
theorem hex_at {c : UInt8} (h : isHexB c = true) : Lib.indexByte [48, 49, 50, 51, 52, 53, 54, 55, 56, 57, 97, 98, 99, 100, 101, 102] (low c) = ((hexV c).toNat : Int) :=
  byte_all (p := fun c => isHexB c = true → Lib.indexByte [48, 49, 50, 51, 52, 53, 54, 55, 56, 57, 97, 98, 99, 100, 101, 102] (low c) = ((hexV c).toNat : Int)) (by decide) c h
theorem qUnhex_ok (c : UInt8) (h : isHexB c = true) : FnOk Tryz.prog 261 [u8 c] (int ((hexV c).toNat : Int)) := by
  refine fnOk Tryz.func261 rfl (by kernel_rfl) Tryz.ntmps261 _ rfl (by simp) fun C hc => ?_
  have hE := enc_128 (hex_128 h)
  have hlt := hex_128 h
  have hS := qSmall_ok [c] (by simp)
  have hI := indexByte_ok [48, 49, 50, 51, 52, 53, 54, 55, 56, 57, 97, 98, 99, 100, 101, 102] (low c)
  rw [hex_at h] at hI
  rw [show small [c] = [low c] from rfl] at hS
  repeat' (first | (first | refine Ya ?_ | refine Yb ?_ | refine Yc ?_ | refine Yd ?_ | refine Ye ?_ | refine Yf ?_ | refine Yg ?_ | refine Yh ?_ | refine Yi ?_ | refine Yj ?_ | refine Yk ?_ | refine Yl ?_ | refine Ym ?_ | refine Yn ?_ | refine Yo ?_ | refine Yp (h := ?_) | refine Yq ?_ | refine Yr ?_ | refine Ys ?_ | refine Zr hc (hk := ?_) | refine Zd hc (hk := ?_) | (refine Zc (ht := fun hb => ?_) (hf := fun hb => ?_) <;> (try simp at hb)) | fail) | (first | refine Zo hc (hk := ?_) | refine Zu hc (hk := ?_) | refine Ze hc (hk := ?_) | refine Zn hc (hk := ?_) | fail))
  rw [hE]
  repeat' (first | (first | refine Ya ?_ | refine Yb ?_ | refine Yc ?_ | refine Yd ?_ | refine Ye ?_ | refine Yf ?_ | refine Yg ?_ | refine Yh ?_ | refine Yi ?_ | refine Yj ?_ | refine Yk ?_ | refine Yl ?_ | refine Ym ?_ | refine Yn ?_ | refine Yo ?_ | refine Yp (h := ?_) | refine Yq ?_ | refine Yr ?_ | refine Ys ?_ | refine Zr hc (hk := ?_) | refine Zd hc (hk := ?_) | (refine Zc (ht := fun hb => ?_) (hf := fun hb => ?_) <;> (try simp at hb)) | fail) | (first | refine Zw hc (hf := by first | exact hS | exact hI) (hk := ?_) | refine Zq hc (hf := by first | exact hS | exact hI) (hk := ?_) | refine Zo hc (hk := ?_) | refine Zu hc (hk := ?_) | refine Ze hc (hk := ?_) | refine Zn hc (hk := ?_) | fail))
  (refine Zl hc (hr := ?_))
  rfl
theorem two_q {h k : UInt8} (hh : isHexB h = true) (hk : isHexB k = true) : 16 * ((hexV h).toNat : Int) + ((hexV k).toNat : Int) = ((two h k).toNat : Int) := by
  have h1 := hexV_lt hh
  have h2 := hexV_lt hk
  unfold two
  simp
  omega
theorem qCoded_ok (s : Bs) (hm : s.length ≤ 100000) (hr : isRow [] s) : FnOk Tryz.prog 223 [str s] (str (normR s)) := by
  refine fnOk Tryz.func223 rfl (by kernel_rfl) Tryz.ntmps223 _ rfl (by simp) fun C hc => ?_
  repeat' (first | (first | refine Ya ?_ | refine Yb ?_ | refine Yc ?_ | refine Yd ?_ | refine Ye ?_ | refine Yf ?_ | refine Yg ?_ | refine Yh ?_ | refine Yi ?_ | refine Yj ?_ | refine Yk ?_ | refine Yl ?_ | refine Ym ?_ | refine Yn ?_ | refine Yo ?_ | refine Yp (h := ?_) | refine Yq ?_ | refine Yr ?_ | refine Ys ?_ | refine Zr hc (hk := ?_) | refine Zd hc (hk := ?_) | (refine Zc (ht := fun hb => ?_) (hf := fun hb => ?_) <;> (try simp at hb)) | fail) | (first | refine Zo hc (hk := ?_) | refine Zu hc (hk := ?_) | refine Ze hc (hk := ?_) | refine Zn hc (hk := ?_) | fail))
  refine ewp_loop (fun x : Nat × Bs => ⟨[(0, .d (str s)), (3, .os 40000 x.2.length), (4, .d (int x.1))], [(40000, .own 5 1 (true, [.lit (.int .u8 0)]) (x.2.map byteRow))]⟩) (fun x => x.1 ≤ s.length ∧ isRow [] (s.drop x.1) ∧ normR s = x.2 ++ normR (s.drop x.1) ∧ x.2.length ≤ x.1) (fun x => s.length - x.1) (0, []) ⟨by simp, by simpa using hr, by simp, by simp⟩ (run_keepB [(3, none, 40000, 5, [.lit (.int .u8 0)])] [0, 3, 4] [40000] (by simp; exact Gives.mk) (by simp; exact Gives.mk) (by simp; exact Gives.mk)) ?_
  rintro ⟨j, m⟩ ⟨h1, h2, h3, h4⟩
  simp only at h1 h2 h3 h4 ⊢
  by_cases hj : j < s.length
  rotate_left
  · rw [List.drop_of_length_le (by omega)] at h3
    rw [h3]
    repeat' (first | (first | refine Ya ?_ | refine Yb ?_ | refine Yc ?_ | refine Yd ?_ | refine Ye ?_ | refine Yf ?_ | refine Yg ?_ | refine Yh ?_ | refine Yi ?_ | refine Yj ?_ | refine Yk ?_ | refine Yl ?_ | refine Ym ?_ | refine Yn ?_ | refine Yo ?_ | refine Yp (h := ?_) | refine Yq ?_ | refine Yr ?_ | refine Ys ?_ | refine Zr hc (hk := ?_) | refine Zd hc (hk := ?_) | (refine Zc (ht := fun hb => ?_) (hf := fun hb => ?_) <;> (try simp at hb)) | fail) | (first | refine Zo hc (hk := ?_) | refine Zu hc (hk := ?_) | refine Ze hc (hk := ?_) | refine Zn hc (hk := ?_) | fail))
    all_goals try (exfalso; omega)
    rw [show normR [] = ([] : Bs) from rfl, List.append_nil]
    (refine Zl hc (hr := ?_))
    simp [one_row]
  by_cases h37 : s[j]?.getD 0 = 37
  rotate_left
  · have e := normR_at s j hj h37
    have h37' : ¬ (((s[j]?.getD 0).toNat : Int) = 37) := fun x => h37 (UInt8.toNat_inj.1 (by simp; omega))
    repeat' (first | (first | refine Ya ?_ | refine Yb ?_ | refine Yc ?_ | refine Yd ?_ | refine Ye ?_ | refine Yf ?_ | refine Yg ?_ | refine Yh ?_ | refine Yi ?_ | refine Yj ?_ | refine Yk ?_ | refine Yl ?_ | refine Ym ?_ | refine Yn ?_ | refine Yo ?_ | refine Yp (h := ?_) | refine Yq ?_ | refine Yr ?_ | refine Ys ?_ | refine Zr hc (hk := ?_) | refine Zd hc (hk := ?_) | (refine Zc (ht := fun hb => ?_) (hf := fun hb => ?_) <;> (try simp at hb)) | fail) | (first | refine Zo hc (hk := ?_) | refine Zu hc (hk := ?_) | refine Ze hc (hk := ?_) | refine Zn hc (hk := ?_) | fail))
    all_goals try (exfalso; omega)
    refine ⟨(j + 1, m ++ [s[j]?.getD 0]), ⟨by simp; omega, row_one hj h2 h37, by rw [h3, e]; simp, by simp; omega⟩, by simp; omega, run_back [0, 3, 4] [40000] (by simp; exact Gives.mk) (by simp; exact Gives.mk) (by simp)⟩
  · obtain ⟨g1, g2, g3, g4⟩ := row_three hj h2 h37
    have e := normR_pc s j g1 h37
    have h37' : (((s[j]?.getD 0).toNat : Int) = 37) := by rw [h37]; rfl
    have hn := two_q g2 g3
    have b1 := hexV_lt g2
    have b2 := hexV_lt g3
    repeat' (first | (first | refine Ya ?_ | refine Yb ?_ | refine Yc ?_ | refine Yd ?_ | refine Ye ?_ | refine Yf ?_ | refine Yg ?_ | refine Yh ?_ | refine Yi ?_ | refine Yj ?_ | refine Yk ?_ | refine Yl ?_ | refine Ym ?_ | refine Yn ?_ | refine Yo ?_ | refine Yp (h := ?_) | refine Yq ?_ | refine Yr ?_ | refine Ys ?_ | refine Zr hc (hk := ?_) | refine Zd hc (hk := ?_) | (refine Zc (ht := fun hb => ?_) (hf := fun hb => ?_) <;> (try simp at hb)) | fail) | (first | refine Zw hc (hf := by first | exact qUnhex_ok _ g2 | exact qUnhex_ok _ g3) (hk := ?_) | refine Zq hc (hf := by first | exact qUnhex_ok _ g2 | exact qUnhex_ok _ g3) (hk := ?_) | refine Zo hc (hk := ?_) | refine Zu hc (hk := ?_) | refine Ze hc (hk := ?_) | refine Zn hc (hk := ?_) | fail))
    all_goals try (exfalso; omega)
    rw [hn]
    generalize two (s[j + 1]?.getD 0) (s[j + 2]?.getD 0) = c at e
    clear hn
    repeat' (first | (first | refine Ya ?_ | refine Yb ?_ | refine Yc ?_ | refine Yd ?_ | refine Ye ?_ | refine Yf ?_ | refine Yg ?_ | refine Yh ?_ | refine Yi ?_ | refine Yj ?_ | refine Yk ?_ | refine Yl ?_ | refine Ym ?_ | refine Yn ?_ | refine Yo ?_ | refine Yp (h := ?_) | refine Yq ?_ | refine Yr ?_ | refine Ys ?_ | refine Zr hc (hk := ?_) | refine Zd hc (hk := ?_) | (refine Zc (ht := fun hb => ?_) (hf := fun hb => ?_) <;> (try simp at hb)) | fail) | (first | refine Zw hc (hf := by first | exact qLetter_ok _ | exact qDigit_ok _) (hk := ?_) | refine Zq hc (hf := by first | exact qLetter_ok _ | exact qDigit_ok _) (hk := ?_) | refine Zo hc (hk := ?_) | refine Zu hc (hk := ?_) | refine Ze hc (hk := ?_) | refine Zn hc (hk := ?_) | fail))
    · have hk : keepC c = true := by
        rcases hb with ((((h | h) | h) | h) | h) | h
        · simp [keepC, h]
        · simp [keepC, h]
        · simp [keepC, show c.toNat = 45 by omega]
        · simp [keepC, show c.toNat = 46 by omega]
        · simp [keepC, show c.toNat = 95 by omega]
        · simp [keepC, show c.toNat = 126 by omega]
      have hB : normB c = [c] := by unfold normB; rw [if_pos hk]
      rw [hB] at e
      refine ⟨(j + 3, m ++ [c]), ⟨by simp; omega, g4, by rw [h3, e]; simp, by simp; omega⟩, by simp; omega, run_back [0, 3, 4] [40000] (by simp; exact Gives.mk) (by simp; exact Gives.mk) (by simp; omega)⟩
    · have hk : keepC c = false := by
        have n1 : ¬ c.toNat = 45 := by omega
        have n2 : ¬ c.toNat = 46 := by omega
        have n3 : ¬ c.toNat = 95 := by omega
        have n4 : ¬ c.toNat = 126 := by omega
        simp [keepC, hb.1.1.1.1.1, hb.1.1.1.1.2, n1, n2, n3, n4]
      have hB : normB c = [37, bigH (c.toNat / 16), bigH (c.toNat % 16)] := by unfold normB; rw [if_neg (by rw [hk]; decide)]
      rw [hB] at e
      have hcl := c.toNat_lt
      have hd1 : c.toNat / 16 < 16 := by omega
      have hd2 : c.toNat % 16 < 16 := by omega
      have hi : (c.toNat : Int).tdiv 16 = ((c.toNat / 16 : Nat) : Int) := by rw [Int.tdiv_eq_ediv_of_nonneg (by omega)]; omega
      have lo : (c.toNat : Int).tmod 16 = ((c.toNat % 16 : Nat) : Int) := by rw [Int.tmod_eq_emod_of_nonneg (by omega)]; omega
      (apply run_drawAny 10 hc (by kernel_rfl) rfl; (focus (refine run_anyM 0 hc rfl (by kernel_rfl) rfl (by first | exact .inl rfl | exact .inr rfl) (by simp [hi, lo]; exact Gives.mk) (by simp) (by simp [hi, lo]; exact Gives.mk) ?_; refine run_anyM 1 hc rfl (by kernel_rfl) rfl (by first | exact .inl rfl | exact .inr rfl) (by simp [hi, lo]; exact Gives.mk) (by simp) (by simp [hi, lo]; exact Gives.mk) ?_; refine run_anyP 2 hc rfl (by kernel_rfl) rfl (by simp [hi, lo]; exact Gives.mk) (by first | exact True.intro | omega | (simp; done) | (simp; omega) | (simp at *; omega)) (by simp) (by simp) (by simp [hi, lo]; exact Gives.mk) ?_; refine run_anyP 3 hc rfl (by kernel_rfl) rfl (by simp [hi, lo]; exact Gives.mk) (by first | exact True.intro | omega | (simp; done) | (simp; omega) | (simp at *; omega)) (by simp) (by simp) (by simp [hi, lo]; exact Gives.mk) ?_; refine run_anyM 4 hc rfl (by kernel_rfl) rfl (by first | exact .inl rfl | exact .inr rfl) (by simp [hi, lo]; exact Gives.mk) (by simp) (by simp [hi, lo]; exact Gives.mk) ?_; refine run_anyP 5 hc rfl (by kernel_rfl) rfl (by simp [hi, lo]; exact Gives.mk) (by first | exact True.intro | omega | (simp; done) | (simp; omega) | (simp at *; omega)) (by simp) (by simp) (by simp [hi, lo]; exact Gives.mk) ?_; refine run_anyP 6 hc rfl (by kernel_rfl) rfl (by simp [hi, lo]; exact Gives.mk) (by first | exact True.intro | omega | (simp; done) | (simp; omega) | (simp at *; omega)) (by simp) (by simp) (by simp [hi, lo]; exact Gives.mk) ?_; refine anyW_all [7] (by kernel_rfl) rfl ?_; (focus (refine run_stepW hc rfl (by simp [hi, lo]; exact Ends.go) (by first | exact True.intro | omega | (simp; done) | (simp; omega) | (simp at *; omega)) ?_; refine anyW_all [8] (by kernel_rfl) rfl ?_; (focus (refine run_stepW hc rfl (by simp [hi, lo]; exact Ends.go) (by first | exact True.intro | omega | (simp; done) | (simp; omega) | (simp at *; omega)) ?_; refine run_anyM 9 hc rfl (by kernel_rfl) rfl (by first | exact .inl rfl | exact .inr rfl) (by simp [hi, lo]; exact Gives.mk) (by simp) (by simp [hi, lo]; exact Gives.mk) ?_; refine anyW_done (by kernel_rfl) ?_; exact run_keep [0, 3, 4] [40000] (by simp [hi, lo]; try exact Gives.mk) (by simp [hi, lo]; try exact Gives.mk))))))))
      repeat' (first | (first | refine Ya ?_ | refine Yb ?_ | refine Yc ?_ | refine Yd ?_ | refine Ye ?_ | refine Yf ?_ | refine Yg ?_ | refine Yh ?_ | refine Yi ?_ | refine Yj ?_ | refine Yk ?_ | refine Yl ?_ | refine Ym ?_ | refine Yn ?_ | refine Yo ?_ | refine Yp (h := ?_) | refine Yq ?_ | refine Yr ?_ | refine Ys ?_ | refine Zr hc (hk := ?_) | refine Zd hc (hk := ?_) | (refine Zc (ht := fun hb => ?_) (hf := fun hb => ?_) <;> (try simp at hb)) | fail) | (first | refine Zo hc (hk := ?_) | refine Zu hc (hk := ?_) | refine Ze hc (hk := ?_) | refine Zn hc (hk := ?_) | fail))
      have e1 : ((c.toNat : Int) / 16).toNat = c.toNat / 16 := by omega
      have e2 : ((c.toNat : Int) % 16).toNat = c.toNat % 16 := by omega
      refine ⟨(j + 3, m ++ [37, bigH (c.toNat / 16), bigH (c.toNat % 16)]), ⟨by simp; omega, g4, by rw [h3, e]; simp, by simp; omega⟩, by simp; omega, run_back [0, 3, 4] [40000] (by simp; exact Gives.mk) (by simp; exact Gives.mk) (by simp [bigH, hi, lo, e1, e2]; omega)⟩
end Go.Proofs.YtnainpghpjelcaaGreatDoor
/-
  CHAPTER 1's REFERENCE: dots of paths. (WITH run_drawN.)
-/
set_option linter.unusedSimpArgs false
set_option linter.unusedVariables false
namespace Go.Proofs.YtnainpghpjelcaaGreatDoor
open Go.Lw Go.RowKit
set_option maxRecDepth 100000
set_option maxHeartbeats 1000000

/-- What is left of the parts, without the one that is put at the end. -/
def udQ (P : List Bs) : Nat → List Bs
  | 0 => []
  | j + 1 => udStep false (udQ P j) (P[j]?.getD [])
theorem udQ_at (P : List Bs) : ∀ j, j < P.length → udAt P j = udQ P j
  | 0, _ => rfl
  | j + 1, h => by
    have e : decide (j + 1 = P.length) = false := decide_eq_false (by omega)
    simp only [udAt, udQ]
    rw [e, udQ_at P j (by omega)]
theorem udQ_end (P : List Bs) (h : 0 < P.length) : udAt P P.length = if P[P.length - 1]?.getD [] = [46] ∨ P[P.length - 1]?.getD [] = [46, 46] then udQ P P.length ++ [[]] else udQ P P.length := by
  obtain ⟨n, hn⟩ : ∃ n, P.length = n + 1 := ⟨P.length - 1, by omega⟩
  rw [hn, Nat.add_sub_cancel]
  simp only [udAt, udQ]
  rw [udQ_at P n (by omega), decide_eq_true hn.symm]
  unfold udStep
  by_cases h1 : P[n]?.getD [] = [46, 46]
  · rw [if_pos h1, if_pos rfl, if_pos (.inr h1), if_pos h1, if_neg (by decide)]
  · rw [if_neg h1, if_neg h1]
    by_cases h2 : P[n]?.getD [] = [46]
    · rw [if_pos h2, if_pos rfl, if_pos (.inl h2), if_pos h2, if_neg (by decide)]
    · rw [if_neg h2, if_neg h2, if_neg (by simp [h1, h2])]
theorem udQ_mem (P : List Bs) (M : Nat) (hP : ∀ j : Nat, (P[j]?.getD []).length ≤ M) : ∀ j, ∀ x ∈ udQ P j, x.length ≤ M
  | 0, x, h => by simp [udQ] at h
  | j + 1, x, h => by
    rcases udStep_mem _ _ _ _ h with h | h | h
    · exact udQ_mem P M hP j x h
    · rw [h]; exact hP j
    · rw [h]; simp
theorem slash_join : ∀ L : List Bs, L ≠ [] → (L.map fun x => (47 : UInt8) :: x).flatten = 47 :: Lib.join L [47]
  | [], h => absurd rfl h
  | [x], _ => by rw [Lib.join_one]; simp
  | x :: y :: L, _ => by
    have := slash_join (y :: L) (by simp)
    rw [List.map_cons, List.flatten_cons, this, join_two]
    simp
def slashed (F : List Bs) (i : Nat) : Bs := ((F.take i).map fun x => (47 : UInt8) :: x).flatten
theorem slash_len (M : Nat) (F : List Bs) (i : Nat) (h : ∀ x ∈ F, x.length ≤ M) : (slashed F i).length ≤ F.length * (M + 1) := by
  have key : ∀ L : List Bs, (∀ x ∈ L, x.length ≤ M) → (L.map fun x => (47 : UInt8) :: x).flatten.length ≤ L.length * (M + 1) := by
    intro L
    induction L with
    | nil => intro _; simp
    | cons x L ih =>
      intro h
      have h1 := ih (fun y hy => h y (List.mem_cons_of_mem _ hy))
      have h2 := h x (by simp)
      rw [List.map_cons, List.flatten_cons, List.length_append, List.length_cons, List.length_cons, Nat.succ_mul]
      omega
  have h1 := key (F.take i) (fun x hx => h x (List.mem_of_mem_take hx))
  have h2 : (F.take i).length ≤ F.length := by simp; omega
  exact Nat.le_trans h1 (Nat.mul_le_mul_right _ h2)
theorem slash_zero (F : List Bs) : slashed F 0 = [] := rfl
theorem slash_next (F : List Bs) (i : Nat) (h : i < F.length) : slashed F (i + 1) = slashed F i ++ 47 :: F[i]?.getD [] := by
  unfold slashed
  rw [List.take_add_one, List.getElem?_eq_getElem h, List.map_append, List.flatten_append]
  simp
theorem split_slash (r : Bs) : Lib.split (47 :: r) [47] = [] :: Lib.split r [47] := split_app 47 [] r (by simp)
theorem qDots_ok (r : Bs) (hm : r.length ≤ 99999) : FnOk Tryz.prog 222 [str (47 :: r)] (str (undotP (47 :: r))) := by
  refine fnOk Tryz.func222 rfl (by kernel_rfl) Tryz.ntmps222 _ rfl (by simp) fun C hc => ?_
  have hsp := split_ok (47 :: r) 47 (by simp; omega)
  rw [split_slash] at hsp
  have hU : undotP (47 :: r) = 47 :: Lib.join (udAt (Lib.split r [47]) (Lib.split r [47]).length) [47] := by
    unfold undotP
    rw [if_neg (by simp)]
    rfl
  rw [hU]
  have hne := split_ne 47 r
  have hlen := split_len r 47
  have heach := split_each 47 r
  generalize Lib.split r [47] = P at hsp hne hlen heach ⊢
  have hP1 : 1 ≤ P.length := List.length_pos_iff.2 hne
  have hPm : ∀ j : Nat, (P[j]?.getD []).length ≤ 100000 := by
    intro j
    rcases Nat.lt_or_ge j P.length with hj | hj
    · rw [List.getElem?_eq_getElem hj]
      have := heach _ (List.getElem_mem hj)
      simp only [Option.getD_some]
      omega
    · rw [List.getElem?_eq_none hj]; simp
  have hv : (1 : Int) ≤ ↑P.length + 1 ∧ ∀ (i : Nat), i < P.length + 1 → (([str []] :: List.map (fun x => [str x]) P)[i]?.getD [str []]).length = 1 := ⟨by omega, fun i hi => by
    cases i with
    | zero => rfl
    | succ i => rw [List.getElem?_cons_succ, List.getElem?_map, List.getElem?_eq_getElem (by omega)]; rfl⟩
  have e3 : (fun i => ([str []] :: List.map (fun x => [str x]) P)[1 + i]?.getD [str []]) = fun i => [str (P[i]?.getD [])] := by
    funext i
    rw [Nat.add_comm, List.getElem?_cons_succ, List.getElem?_map]
    cases P[i]? <;> rfl
  have hF := udQ_end P hP1
  repeat' (first | (first | refine Ya ?_ | refine Yb ?_ | refine Yc ?_ | refine Yd ?_ | refine Ye ?_ | refine Yf ?_ | refine Yg ?_ | refine Yh ?_ | refine Yi ?_ | refine Yj ?_ | refine Yk ?_ | refine Yl ?_ | refine Ym ?_ | refine Yn ?_ | refine Yo ?_ | refine Yp (h := ?_) | refine Yq ?_ | refine Yr ?_ | refine Ys ?_ | refine Zr hc (hk := ?_) | refine Zd hc (hk := ?_) | (refine Zc (ht := fun hb => ?_) (hf := fun hb => ?_) <;> (try simp at hb)) | fail) | (first | refine Zw hc (hf := by exact hsp) (hk := ?_) | refine Zq hc (hf := by exact hsp) (hk := ?_) | refine Zo hc (hk := ?_) | refine Zu hc (hk := ?_) | refine Ze hc (hk := ?_) | refine Zn hc (hk := ?_) | fail))
  rw [e3]
  refine ewp_loop (fun x : Nat × List Bs × Nat => ⟨[(3, .d (.sl P.length fun i => [str (P[i]?.getD [])])), (4, .os 40000 x.2.2), (5, .d (int x.1))], [(40000, .own 9 1 (true, [str []]) (x.2.1.map fun y => [str y]))]⟩) (fun x => x.1 ≤ P.length ∧ x.2.2 ≤ x.2.1.length ∧ x.2.1.length ≤ x.1 ∧ x.2.1.take x.2.2 = udQ P x.1 ∧ (¬ (P[x.1 - 1]?.getD [] = [46] ∨ P[x.1 - 1]?.getD [] = [46, 46]) → 0 < x.1 → x.2.2 = x.2.1.length)) (fun x => P.length - x.1) (0, [], 0) (by simp [udQ]) (run_keepB [(4, none, 40000, 9, [str []])] [3, 4, 5] [40000] (by simp; exact Gives.mk) (by simp; exact Gives.mk) (by simp; exact Gives.mk)) ?_
  rintro ⟨j, es, n⟩ ⟨h1, h2, h3, h4, h5⟩
  simp only at h1 h2 h3 h4 h5 ⊢
  by_cases hj : j < P.length
  · have hst : udQ P (j + 1) = udStep false (udQ P j) (P[j]?.getD []) := rfl
    rw [← h4] at hst
    have eM : (if 1 < (n : Int) then (n : Int) - 1 else 0).toNat = n - 1 := by split <;> omega
    have htk : (es.take n).length = n := by simp; omega
    have htt : (es.take n).take (n - 1) = es.take (n - 1) := by rw [List.take_take]; congr 1; omega
    unfold udStep at hst
    rw [htk, htt] at hst
    repeat' (first | (first | refine Ya ?_ | refine Yb ?_ | refine Yc ?_ | refine Yd ?_ | refine Ye ?_ | refine Yf ?_ | refine Yg ?_ | refine Yh ?_ | refine Yi ?_ | refine Yj ?_ | refine Yk ?_ | refine Yl ?_ | refine Ym ?_ | refine Yn ?_ | refine Yo ?_ | refine Yp (h := ?_) | refine Yq ?_ | refine Yr ?_ | refine Ys ?_ | refine Zr hc (hk := ?_) | refine Zd hc (hk := ?_) | (refine Zc (ht := fun hb => ?_) (hf := fun hb => ?_) <;> (try simp at hb)) | fail) | (first | refine Zo hc (hk := ?_) | refine Zu hc (hk := ?_) | refine Ze hc (hk := ?_) | refine Zn hc (hk := ?_) | fail))
    · rw [if_pos hb, if_neg (by decide)] at hst
      exact ⟨(j + 1, es, n - 1), ⟨by simp only; omega, by simp only; omega, by simp only; omega, hst.symm, fun hnd => absurd (Or.inr (by simpa using hb)) hnd⟩, by simp only; omega, run_back [3, 4, 5] [40000] (by simp; exact Gives.mk) (by simp; exact Gives.mk) (by rw [eM]; simp)⟩
    · rename_i g
      rw [if_neg g, if_neg hb] at hst
      refine ⟨(j + 1, es.take n ++ [P[j]?.getD []], n + 1), ⟨by simp only; omega, by simp; omega, by simp; omega, ?_, fun _ _ => by simp; omega⟩, by simp only; omega, run_back [3, 4, 5] [40000] (by simp; exact Gives.mk) (by simp; exact Gives.mk) (by simp [List.map_take])⟩
      simp only
      rw [hst, List.take_of_length_le (by simp; omega)]
    · rename_i g
      rw [if_neg g, if_pos hb, if_neg (by decide)] at hst
      exact ⟨(j + 1, es, n), ⟨by simp only; omega, by simp only; omega, by simp only; omega, hst.symm.trans rfl, fun hnd => absurd (Or.inl (by simpa using hb)) hnd⟩, by simp only; omega, run_back [3, 4, 5] [40000] (by simp; exact Gives.mk) (by simp; exact Gives.mk) (by simp)⟩
    all_goals (exfalso; omega)
  · obtain rfl : j = P.length := by omega
    have hm1 := udQ_mem P 100000 hPm P.length
    have hFn := udAt_ne P hP1
    have hFm : ∀ x ∈ udAt P P.length, x.length ≤ 100000 := by
      intro x hx
      rw [hF] at hx
      split at hx
      · rcases List.mem_append.1 hx with hx | hx
        · exact hm1 x hx
        · rw [show x = [] by simpa using hx]; simp
      · exact hm1 x hx
    have hFl : (udAt P P.length).length ≤ 100002 := by have := udAt_len P P.length; omega
    generalize udAt P P.length = F at hF hFn hFm hFl ⊢
    repeat' (first | (first | refine Ya ?_ | refine Yb ?_ | refine Yc ?_ | refine Yd ?_ | refine Ye ?_ | refine Yf ?_ | refine Yg ?_ | refine Yh ?_ | refine Yi ?_ | refine Yj ?_ | refine Yk ?_ | refine Yl ?_ | refine Ym ?_ | refine Yn ?_ | refine Yo ?_ | refine Yp (h := ?_) | refine Yq ?_ | refine Yr ?_ | refine Ys ?_ | refine Zr hc (hk := ?_) | refine Zd hc (hk := ?_) | (refine Zc (ht := fun hb => ?_) (hf := fun hb => ?_) <;> (try simp at hb)) | fail) | (first | refine Zo hc (hk := ?_) | refine Zu hc (hk := ?_) | refine Ze hc (hk := ?_) | refine Zn hc (hk := ?_) | fail))
    · rw [if_pos hb, ← h4] at hF
      have e1 : F.length = n + 1 := by rw [hF]; simp; omega
      have e2 : (F.map fun y => [str y]) = List.take n (es.map fun y => [str y]) ++ [[str []]] := by rw [hF]; simp [List.map_take]
      refine ewp_loop (fun i : Nat => ⟨[(4, .os 40000 F.length), (7, .d (str (slashed F i))), (8, .d (int i))], [(40000, .own 9 1 (true, [str []]) (F.map fun y => [str y]))]⟩) (fun i => i ≤ F.length) (fun i => F.length - i) 0 (by simp) (run_back [4, 7, 8] [40000] (by simp; exact Gives.mk) (by simp; exact Gives.mk) (by rw [e1, e2, slash_zero]; simp)) ?_
      intro i hi
      have hb1 := slash_len 100000 F i hFm
      have hb1 : (slashed F i).length ≤ 10000300002 := by omega
      by_cases hlt : i < F.length
      · have hst := slash_next F i hlt
        have hb2 : (F[i]?.getD []).length ≤ 100000 := by rw [List.getElem?_eq_getElem hlt]; exact hFm _ (List.getElem_mem hlt)
        repeat' (first | (first | refine Ya ?_ | refine Yb ?_ | refine Yc ?_ | refine Yd ?_ | refine Ye ?_ | refine Yf ?_ | refine Yg ?_ | refine Yh ?_ | refine Yi ?_ | refine Yj ?_ | refine Yk ?_ | refine Yl ?_ | refine Ym ?_ | refine Yn ?_ | refine Yo ?_ | refine Yp (h := ?_) | refine Yq ?_ | refine Yr ?_ | refine Ys ?_ | refine Zr hc (hk := ?_) | refine Zd hc (hk := ?_) | (refine Zc (ht := fun hb => ?_) (hf := fun hb => ?_) <;> (try simp at hb)) | fail) | (first | refine Zo hc (hk := ?_) | refine Zu hc (hk := ?_) | refine Ze hc (hk := ?_) | refine Zn hc (hk := ?_) | fail))
        · exact ⟨i + 1, by omega, by omega, run_back [4, 7, 8] [40000] (by simp; exact Gives.mk) (by simp; exact Gives.mk) (by rw [hst]; simp)⟩
        all_goals (exfalso; omega)
      · obtain rfl : i = F.length := by omega
        have hjn := slash_join F hFn
        have hsl : slashed F F.length = 47 :: Lib.join F [47] := by unfold slashed; rw [List.take_length]; exact hjn
        rw [← hsl]
        repeat' (first | (first | refine Ya ?_ | refine Yb ?_ | refine Yc ?_ | refine Yd ?_ | refine Ye ?_ | refine Yf ?_ | refine Yg ?_ | refine Yh ?_ | refine Yi ?_ | refine Yj ?_ | refine Yk ?_ | refine Yl ?_ | refine Ym ?_ | refine Yn ?_ | refine Yo ?_ | refine Yp (h := ?_) | refine Yq ?_ | refine Yr ?_ | refine Ys ?_ | refine Zr hc (hk := ?_) | refine Zd hc (hk := ?_) | (refine Zc (ht := fun hb => ?_) (hf := fun hb => ?_) <;> (try simp at hb)) | fail) | (first | refine Zo hc (hk := ?_) | refine Zu hc (hk := ?_) | refine Ze hc (hk := ?_) | refine Zn hc (hk := ?_) | fail))
        all_goals try (exfalso; omega)
        (refine Zl hc (hr := ?_))
        simp
    · rw [if_neg (by simp [hb]), ← h4] at hF
      have e0 := h5 (by simp [hb]) (by omega)
      rw [e0, List.take_length] at hF
      subst hF
      subst e0
      refine ewp_loop (fun i : Nat => ⟨[(4, .os 40000 F.length), (7, .d (str (slashed F i))), (8, .d (int i))], [(40000, .own 9 1 (true, [str []]) (F.map fun y => [str y]))]⟩) (fun i => i ≤ F.length) (fun i => F.length - i) 0 (by simp) (run_back [4, 7, 8] [40000] (by simp; exact Gives.mk) (by simp; exact Gives.mk) (by rw [slash_zero]; simp)) ?_
      intro i hi
      have hb1 := slash_len 100000 F i hFm
      have hb1 : (slashed F i).length ≤ 10000300002 := by omega
      by_cases hlt : i < F.length
      · have hst := slash_next F i hlt
        have hb2 : (F[i]?.getD []).length ≤ 100000 := by rw [List.getElem?_eq_getElem hlt]; exact hFm _ (List.getElem_mem hlt)
        repeat' (first | (first | refine Ya ?_ | refine Yb ?_ | refine Yc ?_ | refine Yd ?_ | refine Ye ?_ | refine Yf ?_ | refine Yg ?_ | refine Yh ?_ | refine Yi ?_ | refine Yj ?_ | refine Yk ?_ | refine Yl ?_ | refine Ym ?_ | refine Yn ?_ | refine Yo ?_ | refine Yp (h := ?_) | refine Yq ?_ | refine Yr ?_ | refine Ys ?_ | refine Zr hc (hk := ?_) | refine Zd hc (hk := ?_) | (refine Zc (ht := fun hb => ?_) (hf := fun hb => ?_) <;> (try simp at hb)) | fail) | (first | refine Zo hc (hk := ?_) | refine Zu hc (hk := ?_) | refine Ze hc (hk := ?_) | refine Zn hc (hk := ?_) | fail))
        · exact ⟨i + 1, by omega, by omega, run_back [4, 7, 8] [40000] (by simp; exact Gives.mk) (by simp; exact Gives.mk) (by rw [hst]; simp)⟩
        all_goals (exfalso; omega)
      · obtain rfl : i = F.length := by omega
        have hjn := slash_join F hFn
        have hsl : slashed F F.length = 47 :: Lib.join F [47] := by unfold slashed; rw [List.take_length]; exact hjn
        rw [← hsl]
        repeat' (first | (first | refine Ya ?_ | refine Yb ?_ | refine Yc ?_ | refine Yd ?_ | refine Ye ?_ | refine Yf ?_ | refine Yg ?_ | refine Yh ?_ | refine Yi ?_ | refine Yj ?_ | refine Yk ?_ | refine Yl ?_ | refine Ym ?_ | refine Yn ?_ | refine Yo ?_ | refine Yp (h := ?_) | refine Yq ?_ | refine Yr ?_ | refine Ys ?_ | refine Zr hc (hk := ?_) | refine Zd hc (hk := ?_) | (refine Zc (ht := fun hb => ?_) (hf := fun hb => ?_) <;> (try simp at hb)) | fail) | (first | refine Zo hc (hk := ?_) | refine Zu hc (hk := ?_) | refine Ze hc (hk := ?_) | refine Zn hc (hk := ?_) | fail))
        all_goals try (exfalso; omega)
        (refine Zl hc (hr := ?_))
        simp
end Go.Proofs.YtnainpghpjelcaaGreatDoor
/-
  CHAPTER 1's REFERENCE: Relative; AddressRelativesMatchSpec's own walk. (WITH run_drawN.)
-/
set_option linter.unusedSimpArgs false
set_option linter.unusedVariables false
namespace Go.Proofs.YtnainpghpjelcaaGreatDoor
open Go.Lw Go.RowKit
set_option maxRecDepth 100000
set_option maxHeartbeats 1000000

theorem qDots0_ok : FnOk Tryz.prog 222 [str []] (str []) := by
  refine fnOk Tryz.func222 rfl (by kernel_rfl) Tryz.ntmps222 _ rfl (by simp) fun C hc => ?_
  repeat' (first | (first | refine Ya ?_ | refine Yb ?_ | refine Yc ?_ | refine Yd ?_ | refine Ye ?_ | refine Yf ?_ | refine Yg ?_ | refine Yh ?_ | refine Yi ?_ | refine Yj ?_ | refine Yk ?_ | refine Yl ?_ | refine Ym ?_ | refine Yn ?_ | refine Yo ?_ | refine Yp (h := ?_) | refine Yq ?_ | refine Yr ?_ | refine Ys ?_ | refine Zr hc (hk := ?_) | refine Zd hc (hk := ?_) | (refine Zc (ht := fun hb => ?_) (hf := fun hb => ?_) <;> (try simp at hb)) | fail) | (first | refine Zo hc (hk := ?_) | refine Zu hc (hk := ?_) | refine Ze hc (hk := ?_) | refine Zn hc (hk := ?_) | fail))
  all_goals try contradiction
  (refine Zl hc (hr := ?_))
  simp
theorem qDotsA_ok (p : Bs) (h : p = [] ∨ p[0]? = some 47) (hm : p.length ≤ 100000) : FnOk Tryz.prog 222 [str p] (str (undotP p)) := by
  cases p with
  | nil => exact qDots0_ok
  | cons c r =>
    have e : c = 47 := by
      rcases h with h | h
      · cases h
      · simpa using h
    subst e
    exact qDots_ok r (by simp at hm; omega)
end Go.Proofs.YtnainpghpjelcaaGreatDoor
