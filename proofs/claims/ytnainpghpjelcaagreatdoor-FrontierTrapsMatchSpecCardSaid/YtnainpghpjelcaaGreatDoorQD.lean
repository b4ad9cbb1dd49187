/-
  CHAPTER 1's REFERENCE: the normal form of a row. (WITH run_drawN.)
-/
import Derived.Test.YtnainpghpjelcaaGreatDoorAdL
import Derived.Test.YtnainpghpjelcaaGreatDoorR1D
set_option linter.unusedSimpArgs false
set_option linter.unusedVariables false
namespace Go.Proofs.YtnainpghpjelcaaGreatDoor
open Go.Lw Go.RowKit
set_option maxRecDepth 100000
set_option maxHeartbeats 1000000

theorem hex_128 {c : UInt8} (h : isHexB c = true) : c.toNat < 128 := byte_all (p := fun c => isHexB c = true → c.toNat < 128) (by decide) c h
theorem enc_128 {c : UInt8} (h : c.toNat < 128) : Utf8.encode (c.toNat : Int) = bs [c] := by
  have key : ∀ n : Fin 128, (Utf8.encode (n.val : Int)).data.toList = [UInt8.ofNat n.val] := by decide
  have h2 := key ⟨c.toNat, h⟩
  simp only [UInt8.ofNat_toNat] at h2
  apply ByteArray.ext
  apply Array.ext'
  exact h2
theorem hex_at {c : UInt8} (h : isHexB c = true) : Lib.indexByte [48, 49, 50, 51, 52, 53, 54, 55, 56, 57, 97, 98, 99, 100, 101, 102] (low c) = ((hexV c).toNat : Int) :=
  byte_all (p := fun c => isHexB c = true → Lib.indexByte [48, 49, 50, 51, 52, 53, 54, 55, 56, 57, 97, 98, 99, 100, 101, 102] (low c) = ((hexV c).toNat : Int)) (by decide) c h
theorem qUnhex_ok (c : UInt8) (h : isHexB c = true) : FnOk Tryz.prog 261 [u8 c] (int ((hexV c).toNat : Int)) := by
  refine fnOk Tryz.func261 rfl (by kernel_rfl) Tryz.ntmps261 _ rfl (by simp) fun C hc => ?_
  have hE := enc_128 (hex_128 h)
  have hlt := hex_128 h
  have hS := qSmall_ok [c] (by simp)
  have hI := indexByte_ok [48, 49, 50, 51, 52, 53, 54, 55, 56, 57, 97, 98, 99, 100, 101, 102] (low c)
  rw [hex_at h] at hI
  rw [show small [c] = [low c] from rfl] at hS
  repeat' (first | (first | refine Ya ?_ | refine Yb ?_ | refine Yc ?_ | refine Yd ?_ | refine Ye ?_ | refine Yf ?_ | refine Yg ?_ | refine Yh ?_ | refine Yi ?_ | refine Yj ?_ | refine Yk ?_ | refine Yl ?_ | refine Ym ?_ | refine Yn ?_ | refine Yo ?_ | refine Yp (h := ?_) | refine Yq ?_ | refine Yr ?_ | refine Ys ?_ | refine Zr hc (hk := ?_) | refine Zd hc (hk := ?_) | (refine Zc (ht := fun hb => ?_) (hf := fun hb => ?_) <;> (try simp at hb)) | fail) | (first | refine Zo hc (hk := ?_) | refine Zu hc (hk := ?_) | refine Ze hc (hk := ?_) | refine Zn hc (hk := ?_) | fail))
  rw [hE]
  repeat' (first | (first | refine Ya ?_ | refine Yb ?_ | refine Yc ?_ | refine Yd ?_ | refine Ye ?_ | refine Yf ?_ | refine Yg ?_ | refine Yh ?_ | refine Yi ?_ | refine Yj ?_ | refine Yk ?_ | refine Yl ?_ | refine Ym ?_ | refine Yn ?_ | refine Yo ?_ | refine Yp (h := ?_) | refine Yq ?_ | refine Yr ?_ | refine Ys ?_ | refine Zr hc (hk := ?_) | refine Zd hc (hk := ?_) | (refine Zc (ht := fun hb => ?_) (hf := fun hb => ?_) <;> (try simp at hb)) | fail) | (first | refine Zw hc (hf := by first | exact hS | exact hI) (hk := ?_) | refine Zq hc (hf := by first | exact hS | exact hI) (hk := ?_) | refine Zo hc (hk := ?_) | refine Zu hc (hk := ?_) | refine Ze hc (hk := ?_) | refine Zn hc (hk := ?_) | fail))
  (refine Zl hc (hr := ?_))
  rfl
theorem two_q {h k : UInt8} (hh : isHexB h = true) (hk : isHexB k = true) : 16 * ((hexV h).toNat : Int) + ((hexV k).toNat : Int) = ((two h k).toNat : Int) := by
  have h1 := hexV_lt hh
  have h2 := hexV_lt hk
  unfold two
  simp
  omega
theorem qCoded_ok (s : Bs) (hm : s.length ≤ 100000) (hr : isRow [] s) : FnOk Tryz.prog 223 [str s] (str (normR s)) := by
  refine fnOk Tryz.func223 rfl (by kernel_rfl) Tryz.ntmps223 _ rfl (by simp) fun C hc => ?_
  repeat' (first | (first | refine Ya ?_ | refine Yb ?_ | refine Yc ?_ | refine Yd ?_ | refine Ye ?_ | refine Yf ?_ | refine Yg ?_ | refine Yh ?_ | refine Yi ?_ | refine Yj ?_ | refine Yk ?_ | refine Yl ?_ | refine Ym ?_ | refine Yn ?_ | refine Yo ?_ | refine Yp (h := ?_) | refine Yq ?_ | refine Yr ?_ | refine Ys ?_ | refine Zr hc (hk := ?_) | refine Zd hc (hk := ?_) | (refine Zc (ht := fun hb => ?_) (hf := fun hb => ?_) <;> (try simp at hb)) | fail) | (first | refine Zo hc (hk := ?_) | refine Zu hc (hk := ?_) | refine Ze hc (hk := ?_) | refine Zn hc (hk := ?_) | fail))
  refine ewp_loop (fun x : Nat × Bs => ⟨[(0, .d (str s)), (3, .os 40000 x.2.length), (4, .d (int x.1))], [(40000, .own 5 1 (true, [.lit (.int .u8 0)]) (x.2.map byteRow))]⟩) (fun x => x.1 ≤ s.length ∧ isRow [] (s.drop x.1) ∧ normR s = x.2 ++ normR (s.drop x.1) ∧ x.2.length ≤ x.1) (fun x => s.length - x.1) (0, []) ⟨by simp, by simpa using hr, by simp, by simp⟩ (run_keepB [(3, none, 40000, 5, [.lit (.int .u8 0)])] [0, 3, 4] [40000] (by simp; exact Gives.mk) (by simp; exact Gives.mk) (by simp; exact Gives.mk)) ?_
  rintro ⟨j, m⟩ ⟨h1, h2, h3, h4⟩
  simp only at h1 h2 h3 h4 ⊢
  by_cases hj : j < s.length
  rotate_left
  · rw [List.drop_of_length_le (by omega)] at h3
    rw [h3]
    repeat' (first | (first | refine Ya ?_ | refine Yb ?_ | refine Yc ?_ | refine Yd ?_ | refine Ye ?_ | refine Yf ?_ | refine Yg ?_ | refine Yh ?_ | refine Yi ?_ | refine Yj ?_ | refine Yk ?_ | refine Yl ?_ | refine Ym ?_ | refine Yn ?_ | refine Yo ?_ | refine Yp (h := ?_) | refine Yq ?_ | refine Yr ?_ | refine Ys ?_ | refine Zr hc (hk := ?_) | refine Zd hc (hk := ?_) | (refine Zc (ht := fun hb => ?_) (hf := fun hb => ?_) <;> (try simp at hb)) | fail) | (first | refine Zo hc (hk := ?_) | refine Zu hc (hk := ?_) | refine Ze hc (hk := ?_) | refine Zn hc (hk := ?_) | fail))
    all_goals try (exfalso; omega)
    rw [show normR [] = ([] : Bs) from rfl, List.append_nil]
    (refine Zl hc (hr := ?_))
    simp [one_row]
  by_cases h37 : s[j]?.getD 0 = 37
  rotate_left
  · have e := normR_at s j hj h37
    have h37' : ¬ (((s[j]?.getD 0).toNat : Int) = 37) := fun x => h37 (UInt8.toNat_inj.1 (by simp; omega))
    repeat' (first | (first | refine Ya ?_ | refine Yb ?_ | refine Yc ?_ | refine Yd ?_ | refine Ye ?_ | refine Yf ?_ | refine Yg ?_ | refine Yh ?_ | refine Yi ?_ | refine Yj ?_ | refine Yk ?_ | refine Yl ?_ | refine Ym ?_ | refine Yn ?_ | refine Yo ?_ | refine Yp (h := ?_) | refine Yq ?_ | refine Yr ?_ | refine Ys ?_ | refine Zr hc (hk := ?_) | refine Zd hc (hk := ?_) | (refine Zc (ht := fun hb => ?_) (hf := fun hb => ?_) <;> (try simp at hb)) | fail) | (first | refine Zo hc (hk := ?_) | refine Zu hc (hk := ?_) | refine Ze hc (hk := ?_) | refine Zn hc (hk := ?_) | fail))
    all_goals try (exfalso; omega)
    refine ⟨(j + 1, m ++ [s[j]?.getD 0]), ⟨by simp; omega, row_one hj h2 h37, by rw [h3, e]; simp, by simp; omega⟩, by simp; omega, run_back [0, 3, 4] [40000] (by simp; exact Gives.mk) (by simp; exact Gives.mk) (by simp)⟩
  · obtain ⟨g1, g2, g3, g4⟩ := row_three hj h2 h37
    have e := normR_pc s j g1 h37
    have h37' : (((s[j]?.getD 0).toNat : Int) = 37) := by rw [h37]; rfl
    have hn := two_q g2 g3
    have b1 := hexV_lt g2
    have b2 := hexV_lt g3
    repeat' (first | (first | refine Ya ?_ | refine Yb ?_ | refine Yc ?_ | refine Yd ?_ | refine Ye ?_ | refine Yf ?_ | refine Yg ?_ | refine Yh ?_ | refine Yi ?_ | refine Yj ?_ | refine Yk ?_ | refine Yl ?_ | refine Ym ?_ | refine Yn ?_ | refine Yo ?_ | refine Yp (h := ?_) | refine Yq ?_ | refine Yr ?_ | refine Ys ?_ | refine Zr hc (hk := ?_) | refine Zd hc (hk := ?_) | (refine Zc (ht := fun hb => ?_) (hf := fun hb => ?_) <;> (try simp at hb)) | fail) | (first | refine Zw hc (hf := by first | exact qUnhex_ok _ g2 | exact qUnhex_ok _ g3) (hk := ?_) | refine Zq hc (hf := by first | exact qUnhex_ok _ g2 | exact qUnhex_ok _ g3) (hk := ?_) | refine Zo hc (hk := ?_) | refine Zu hc (hk := ?_) | refine Ze hc (hk := ?_) | refine Zn hc (hk := ?_) | fail))
    all_goals try (exfalso; omega)
    rw [hn]
    generalize two (s[j + 1]?.getD 0) (s[j + 2]?.getD 0) = c at e
    clear hn
    repeat' (first | (first | refine Ya ?_ | refine Yb ?_ | refine Yc ?_ | refine Yd ?_ | refine Ye ?_ | refine Yf ?_ | refine Yg ?_ | refine Yh ?_ | refine Yi ?_ | refine Yj ?_ | refine Yk ?_ | refine Yl ?_ | refine Ym ?_ | refine Yn ?_ | refine Yo ?_ | refine Yp (h := ?_) | refine Yq ?_ | refine Yr ?_ | refine Ys ?_ | refine Zr hc (hk := ?_) | refine Zd hc (hk := ?_) | (refine Zc (ht := fun hb => ?_) (hf := fun hb => ?_) <;> (try simp at hb)) | fail) | (first | refine Zw hc (hf := by first | exact qLetter_ok _ | exact qDigit_ok _) (hk := ?_) | refine Zq hc (hf := by first | exact qLetter_ok _ | exact qDigit_ok _) (hk := ?_) | refine Zo hc (hk := ?_) | refine Zu hc (hk := ?_) | refine Ze hc (hk := ?_) | refine Zn hc (hk := ?_) | fail))
    · have hk : keepC c = true := by
        rcases hb with ((((h | h) | h) | h) | h) | h
        · simp [keepC, h]
        · simp [keepC, h]
        · simp [keepC, show c.toNat = 45 by omega]
        · simp [keepC, show c.toNat = 46 by omega]
        · simp [keepC, show c.toNat = 95 by omega]
        · simp [keepC, show c.toNat = 126 by omega]
      have hB : normB c = [c] := by unfold normB; rw [if_pos hk]
      rw [hB] at e
      refine ⟨(j + 3, m ++ [c]), ⟨by simp; omega, g4, by rw [h3, e]; simp, by simp; omega⟩, by simp; omega, run_back [0, 3, 4] [40000] (by simp; exact Gives.mk) (by simp; exact Gives.mk) (by simp; omega)⟩
    · have hk : keepC c = false := by
        have n1 : ¬ c.toNat = 45 := by omega
        have n2 : ¬ c.toNat = 46 := by omega
        have n3 : ¬ c.toNat = 95 := by omega
        have n4 : ¬ c.toNat = 126 := by omega
        simp [keepC, hb.1.1.1.1.1, hb.1.1.1.1.2, n1, n2, n3, n4]
      have hB : normB c = [37, bigH (c.toNat / 16), bigH (c.toNat % 16)] := by unfold normB; rw [if_neg (by rw [hk]; decide)]
      rw [hB] at e
      have hcl := c.toNat_lt
      have hd1 : c.toNat / 16 < 16 := by omega
      have hd2 : c.toNat % 16 < 16 := by omega
      have hi : (c.toNat : Int).tdiv 16 = ((c.toNat / 16 : Nat) : Int) := by rw [Int.tdiv_eq_ediv_of_nonneg (by omega)]; omega
      have lo : (c.toNat : Int).tmod 16 = ((c.toNat % 16 : Nat) : Int) := by rw [Int.tmod_eq_emod_of_nonneg (by omega)]; omega
      (apply run_drawAny 10 hc (by kernel_rfl) rfl; (focus (refine run_anyM 0 hc rfl (by kernel_rfl) rfl (by first | exact .inl rfl | exact .inr rfl) (by simp [hi, lo]; exact Gives.mk) (by simp) (by simp [hi, lo]; exact Gives.mk) ?_; refine run_anyM 1 hc rfl (by kernel_rfl) rfl (by first | exact .inl rfl | exact .inr rfl) (by simp [hi, lo]; exact Gives.mk) (by simp) (by simp [hi, lo]; exact Gives.mk) ?_; refine run_anyP 2 hc rfl (by kernel_rfl) rfl (by simp [hi, lo]; exact Gives.mk) (by first | exact True.intro | omega | (simp; done) | (simp; omega) | (simp at *; omega)) (by simp) (by simp) (by simp [hi, lo]; exact Gives.mk) ?_; refine run_anyP 3 hc rfl (by kernel_rfl) rfl (by simp [hi, lo]; exact Gives.mk) (by first | exact True.intro | omega | (simp; done) | (simp; omega) | (simp at *; omega)) (by simp) (by simp) (by simp [hi, lo]; exact Gives.mk) ?_; refine run_anyM 4 hc rfl (by kernel_rfl) rfl (by first | exact .inl rfl | exact .inr rfl) (by simp [hi, lo]; exact Gives.mk) (by simp) (by simp [hi, lo]; exact Gives.mk) ?_; refine run_anyP 5 hc rfl (by kernel_rfl) rfl (by simp [hi, lo]; exact Gives.mk) (by first | exact True.intro | omega | (simp; done) | (simp; omega) | (simp at *; omega)) (by simp) (by simp) (by simp [hi, lo]; exact Gives.mk) ?_; refine run_anyP 6 hc rfl (by kernel_rfl) rfl (by simp [hi, lo]; exact Gives.mk) (by first | exact True.intro | omega | (simp; done) | (simp; omega) | (simp at *; omega)) (by simp) (by simp) (by simp [hi, lo]; exact Gives.mk) ?_; refine anyW_all [7] (by kernel_rfl) rfl ?_; (focus (refine run_stepW hc rfl (by simp [hi, lo]; exact Ends.go) (by first | exact True.intro | omega | (simp; done) | (simp; omega) | (simp at *; omega)) ?_; refine anyW_all [8] (by kernel_rfl) rfl ?_; (focus (refine run_stepW hc rfl (by simp [hi, lo]; exact Ends.go) (by first | exact True.intro | omega | (simp; done) | (simp; omega) | (simp at *; omega)) ?_; refine run_anyM 9 hc rfl (by kernel_rfl) rfl (by first | exact .inl rfl | exact .inr rfl) (by simp [hi, lo]; exact Gives.mk) (by simp) (by simp [hi, lo]; exact Gives.mk) ?_; refine anyW_done (by kernel_rfl) ?_; exact run_keep [0, 3, 4] [40000] (by simp [hi, lo]; try exact Gives.mk) (by simp [hi, lo]; try exact Gives.mk))))))))
      repeat' (first | (first | refine Ya ?_ | refine Yb ?_ | refine Yc ?_ | refine Yd ?_ | refine Ye ?_ | refine Yf ?_ | refine Yg ?_ | refine Yh ?_ | refine Yi ?_ | refine Yj ?_ | refine Yk ?_ | refine Yl ?_ | refine Ym ?_ | refine Yn ?_ | refine Yo ?_ | refine Yp (h := ?_) | refine Yq ?_ | refine Yr ?_ | refine Ys ?_ | refine Zr hc (hk := ?_) | refine Zd hc (hk := ?_) | (refine Zc (ht := fun hb => ?_) (hf := fun hb => ?_) <;> (try simp at hb)) | fail) | (first | refine Zo hc (hk := ?_) | refine Zu hc (hk := ?_) | refine Ze hc (hk := ?_) | refine Zn hc (hk := ?_) | fail))
      have e1 : ((c.toNat : Int) / 16).toNat = c.toNat / 16 := by omega
      have e2 : ((c.toNat : Int) % 16).toNat = c.toNat % 16 := by omega
      refine ⟨(j + 3, m ++ [37, bigH (c.toNat / 16), bigH (c.toNat % 16)]), ⟨by simp; omega, g4, by rw [h3, e]; simp, by simp; omega⟩, by simp; omega, run_back [0, 3, 4] [40000] (by simp; exact Gives.mk) (by simp; exact Gives.mk) (by simp [bigH, hi, lo, e1, e2]; omega)⟩
end Go.Proofs.YtnainpghpjelcaaGreatDoor
