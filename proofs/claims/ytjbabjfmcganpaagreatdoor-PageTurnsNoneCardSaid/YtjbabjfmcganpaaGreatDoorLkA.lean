/-
  ADDRESS: Resolve, at any base and any text: what it gives. (WITH run_drawN.)
-/
import Derived.Test.YtjbabjfmcganpaaGreatDoorAdG
import Derived.Test.YtjbabjfmcganpaaGreatDoorAdW
import Derived.Test.YtjbabjfmcganpaaGreatDoorAdM
import Derived.Lib.LastIndexByte
set_option linter.unusedSimpArgs false
set_option linter.unusedVariables false
namespace Go.Proofs.YtjbabjfmcganpaaGreatDoor
open Go.Lw Go.RowKit
set_option maxRecDepth 100000
set_option maxHeartbeats 1000000

/-- What ends no row. -/
def rowK (i : Nat) (c : UInt8) : Bool := !isLet c && (decide (i = 0) || (!isDig c && decide (c.toNat ≠ 43) && decide (c.toNat ≠ 45) && decide (c.toNat ≠ 46)))
def rowR (s : Bs) (i : Nat) : Bs := if i < s.length then (if (s[i]?.getD 0).toNat = 58 then s.take i else if rowK i (s[i]?.getD 0) = true then [] else rowR s (i + 1)) else []
termination_by s.length - i
theorem rowR_len (s : Bs) (i : Nat) : (rowR s i).length ≤ s.length := by
  rw [rowR]
  split
  · split
    · simp; omega
    · split
      · simp
      · exact rowR_len s (i + 1)
  · simp
termination_by s.length - i
theorem rowA_ok (s : Bs) (hm : s.length ≤ 9223372036854775807) : FnOk Tryz.prog 67 [str s] (str (rowR s 0)) := by
  refine fnOk Tryz.func67 rfl (by kernel_rfl) Tryz.ntmps67 _ rfl (by simp) fun C hc => ?_
  repeat' (first | (first | refine Ya ?_ | refine Yb ?_ | refine Yc ?_ | refine Yd ?_ | refine Ye ?_ | refine Yf ?_ | refine Yg ?_ | refine Yh ?_ | refine Yi ?_ | refine Yj ?_ | refine Yk ?_ | refine Yl ?_ | refine Ym ?_ | refine Yn ?_ | refine Yo ?_ | refine Yp (h := ?_) | refine Yq ?_ | refine Yr ?_ | refine Ys ?_ | refine Zr hc (hk := ?_) | refine Zd hc (hk := ?_) | (refine Zc (ht := fun hb => ?_) (hf := fun hb => ?_) <;> (try simp at hb)) | fail) | (first | refine Zo hc (hk := ?_) | refine Zu hc (hk := ?_) | refine Ze hc (hk := ?_) | refine Zn hc (hk := ?_) | fail))
  refine ewp_loop (fun j : Nat => ⟨[(0, .d (str s)), (6, .d (int s.length)), (7, .d (int j))], []⟩) (fun j => j ≤ s.length ∧ rowR s 0 = rowR s j) (fun j => s.length - j) 0 (by simp) (run_keep [0, 6, 7] [] (by simp; exact Gives.mk) (by simp; exact Gives.mk)) ?_
  rintro j ⟨hj, hA⟩
  have hst : rowR s j = if j < s.length then (if (s[j]?.getD 0).toNat = 58 then s.take j else if rowK j (s[j]?.getD 0) = true then [] else rowR s (j + 1)) else [] := by rw [rowR]
  have hL := adLetter_ok (s[j]?.getD 0)
  have hG := adDigit_ok (s[j]?.getD 0)
  have hK : rowK j (s[j]?.getD 0) = true ↔ isLet (s[j]?.getD 0) = false ∧ (j = 0 ∨ (isDig (s[j]?.getD 0) = false ∧ (s[j]?.getD 0).toNat ≠ 43 ∧ (s[j]?.getD 0).toNat ≠ 45 ∧ (s[j]?.getD 0).toNat ≠ 46)) := by simp [rowK, and_assoc]
  repeat' (first | (first | refine Ya ?_ | refine Yb ?_ | refine Yc ?_ | refine Yd ?_ | refine Ye ?_ | refine Yf ?_ | refine Yg ?_ | refine Yh ?_ | refine Yi ?_ | refine Yj ?_ | refine Yk ?_ | refine Yl ?_ | refine Ym ?_ | refine Yn ?_ | refine Yo ?_ | refine Yp (h := ?_) | refine Yq ?_ | refine Yr ?_ | refine Ys ?_ | refine Zr hc (hk := ?_) | refine Zd hc (hk := ?_) | (refine Zc (ht := fun hb => ?_) (hf := fun hb => ?_) <;> (try simp at hb)) | fail) | (first | refine Zw hc (hf := by first | exact hL | exact hG) (hk := ?_) | refine Zq hc (hf := by first | exact hL | exact hG) (hk := ?_) | refine Zo hc (hk := ?_) | refine Zu hc (hk := ?_) | refine Ze hc (hk := ?_) | refine Zn hc (hk := ?_) | fail))
  · rw [hA, hst, if_pos (by omega), if_pos (by omega)]
    (refine Zl hc (hr := ?_))
    simp
  · rw [hA, hst, if_pos (by omega), if_neg (by omega), if_pos (hK.2 ⟨hb.1, hb.2.imp id fun h => ⟨h.1.1.1, by omega, by omega, by omega⟩⟩)]
    (refine Zl hc (hr := ?_))
    simp
  · refine ⟨j + 1, ⟨by omega, ?_⟩, by omega, run_back [0, 6, 7] [] (by simp; exact Gives.mk) (by simp; exact Gives.mk) (by simp)⟩
    rw [hA, hst, if_pos (by omega), if_neg (by omega), if_neg]
    intro h
    obtain ⟨h1, h2⟩ := hK.1 h
    obtain ⟨h3, h4⟩ := hb h1
    rcases h2 with e | e
    · exact h3 e
    · have := h4 e.1 (by omega) (by omega)
      omega
  · rw [hA, hst, if_neg (by omega)]
    (refine Zl hc (hr := ?_))
    simp
/-- What a text means that is no whole address. -/
def lkK (p : Bs) : Nat := (Lib.lastIndexByte (bs p) 47 + 1).toNat
theorem lkK_at (p : Bs) : Lib.lastIndexByte (bs p) 47 = (lkK p : Int) - 1 ∧ lkK p ≤ p.length := by
  have h : ∃ k : Nat, Lib.lastIndexByte (bs p) 47 = (k : Int) - 1 ∧ k ≤ p.length := by
    unfold Lib.lastIndexByte
    rcases Lib.lastIdx_spec (bs p) 47 (bs p).size with ⟨h, _⟩ | ⟨i, h1, h2, _⟩
    · exact ⟨0, by rw [h]; rfl, Nat.zero_le _⟩
    · exact ⟨i + 1, by rw [h2]; omega, by simp at h1; omega⟩
  obtain ⟨k, h1, h2⟩ := h
  have e : lkK p = k := by unfold lkK; rw [h1]; omega
  rw [e]
  exact ⟨h1, h2⟩
theorem lkByte_ok (s : Bs) (c : UInt8) (hs : s.length < 4611686018427387904) : FnOk Tryz.prog 105 [str s, u8 c] (int (Lib.lastIndexByte (bs s) c.toNat)) :=
  fnOk_lits [.string (bs s), .int .u8 c.toNat] (by kernel_rfl) fun w _ => Tryz.strings_LastIndexByte (bs s) c.toNat (by simpa using hs) w
theorem cut_lk (c : UInt8) (s : Bs) : (Lib.cut s [c]).1.length ≤ s.length ∧ (Lib.cut s [c]).2.1.length ≤ s.length := by
  unfold Lib.cut
  split
  · constructor
    · simp; omega
    · simp
  · simp
def pathM (p q : Bs) : Bs := if q = [] then p else if (q[0]?.getD 0).toNat = 47 then q else if ((p.take (lkK p) ++ q)[0]?.getD 0).toNat = 47 then p.take (lkK p) ++ q else 47 :: (p.take (lkK p) ++ q)
theorem pathM_len (p q : Bs) : (pathM p q).length ≤ p.length + q.length + 1 := by
  have h : (p.take (lkK p)).length ≤ p.length := by simp; omega
  unfold pathM
  (repeat' split) <;> first | omega | (simp only [List.length_append, List.length_cons]; omega)
/-- The two cuts of a text. -/
def cutF (s : Bs) : Bs × Bs × Bool := Lib.cut s [35]
def cutQ (s : Bs) : Bs × Bs × Bool := Lib.cut (cutF s).1 [63]
def meantR (b : Adr) (s : Bs) : Adr :=
  ⟨b.scheme, b.host, b.port, pathM b.path (cutQ s).1, if (cutQ s).1 = [] ∧ (cutQ s).2.2 = false then b.query else (cutQ s).2.1, if (cutQ s).1 = [] ∧ (cutQ s).2.2 = false then b.hasQ else (cutQ s).2.2, (cutF s).2.1, (cutF s).2.2⟩
theorem meantA_ok (b : Adr) (s : Bs) (hp : b.path.length ≤ 100000) (hs : s.length ≤ 100000) : FnOk Tryz.prog 69 [adrD b, str s] (adrD (meantR b s)) := by
  refine fnOk Tryz.func69 rfl (by kernel_rfl) Tryz.ntmps69 _ rfl (by simp) fun C hc => ?_
  have hc1 : FnOk Tryz.prog 104 [str s, str [35]] (.tup [str (cutF s).1, str (cutF s).2.1, tru (cutF s).2.2]) := cut_ok s 35 (by omega)
  have l1 : (cutF s).1.length ≤ s.length ∧ (cutF s).2.1.length ≤ s.length := cut_lk 35 s
  have hc2 : FnOk Tryz.prog 104 [str (cutF s).1, str [63]] (.tup [str (cutQ s).1, str (cutQ s).2.1, tru (cutQ s).2.2]) := cut_ok (cutF s).1 63 (by omega)
  have l2 : (cutQ s).1.length ≤ (cutF s).1.length ∧ (cutQ s).2.1.length ≤ (cutF s).1.length := cut_lk 63 (cutF s).1
  unfold meantR pathM
  generalize cutQ s = q at hc2 l2 ⊢
  generalize cutF s = f at hc1 hc2 l1 l2 ⊢
  obtain ⟨q1, q2, q3⟩ := q
  obtain ⟨f1, f2, f3⟩ := f
  simp only at hc1 hc2 l1 l2 ⊢
  have hB : FnOk Tryz.prog 105 [str b.path, u8 47] (int ((lkK b.path : Int) - 1)) := by rw [← (lkK_at b.path).1]; exact lkByte_ok b.path 47 (by omega)
  have hk := (lkK_at b.path).2
  generalize lkK b.path = k at hB hk ⊢
  by_cases hq : q1 = []
  · subst hq
    repeat' (first | (first | refine Ya ?_ | refine Yb ?_ | refine Yc ?_ | refine Yd ?_ | refine Ye ?_ | refine Yf ?_ | refine Yg ?_ | refine Yh ?_ | refine Yi ?_ | refine Yj ?_ | refine Yk ?_ | refine Yl ?_ | refine Ym ?_ | refine Yn ?_ | refine Yo ?_ | refine Yp (h := ?_) | refine Yq ?_ | refine Yr ?_ | refine Ys ?_ | refine Zr hc (hk := ?_) | refine Zd hc (hk := ?_) | (refine Zc (ht := fun hb => ?_) (hf := fun hb => ?_) <;> (try simp at hb)) | fail) | (first | refine Zw hc (hf := by first | exact hc1 | exact hc2 | exact hB) (hk := ?_) | refine Zq hc (hf := by first | exact hc1 | exact hc2 | exact hB) (hk := ?_) | refine Zo hc (hk := ?_) | refine Zu hc (hk := ?_) | refine Ze hc (hk := ?_) | refine Zn hc (hk := ?_) | fail))
    · (apply run_drawAny 8 hc (by kernel_rfl) rfl; (focus (refine run_anyP 0 hc rfl (by kernel_rfl) rfl (by simp; exact Gives.mk) (by first | exact True.intro | omega | (simp; done) | (simp; omega) | (simp at *; omega)) (by simp) (by simp) (by simp; exact Gives.mk) ?_; refine run_anyP 2 hc rfl (by kernel_rfl) rfl (by simp; exact Gives.mk) (by first | exact True.intro | omega | (simp; done) | (simp; omega) | (simp at *; omega)) (by simp) (by simp) (by simp; exact Gives.mk) ?_; refine anyW_all [1, 3] (by kernel_rfl) rfl ?_; refine ⟨?_, ?_⟩; (focus (refine run_stepW hc rfl (by simp; exact Ends.go) (by first | exact True.intro | omega | (simp; done) | (simp; omega) | (simp at *; omega)) ?_; refine run_anyP 4 hc rfl (by kernel_rfl) rfl (by simp; exact Gives.mk) (by first | exact True.intro | omega | (simp; done) | (simp; omega) | (simp at *; omega)) (by simp) (by simp) (by simp; exact Gives.mk) ?_; refine anyW_all [3, 5] (by kernel_rfl) rfl ?_; refine ⟨?_, ?_⟩; (focus (refine run_stepW hc rfl (by simp; exact Ends.go) (by first | exact True.intro | omega | (simp; done) | (simp; omega) | (simp at *; omega)) ?_; refine anyW_all [5] (by kernel_rfl) rfl ?_; (focus (refine run_stepW hc rfl (by simp; exact Ends.go) (by first | exact True.intro | omega | (simp; done) | (simp; omega) | (simp at *; omega)) ?_; refine run_anyP 6 hc rfl (by kernel_rfl) rfl (by simp; exact Gives.mk) (by first | exact True.intro | omega | (simp; done) | (simp; omega) | (simp at *; omega)) (by simp) (by simp) (by simp; exact Gives.mk) ?_; refine anyW_all [7] (by kernel_rfl) rfl ?_; (focus (refine run_stepW hc rfl (by simp; exact Ends.go) (by first | exact True.intro | omega | (simp; done) | (simp; omega) | (simp at *; omega)) ?_; refine anyW_done (by kernel_rfl) ?_; exact run_keep [4, 5] [4, 5] (by simp; try exact Gives.mk) (by simp; try exact Gives.mk))))))); (focus (refine run_stepW hc rfl (by simp; exact Ends.go) (by first | exact True.intro | omega | (simp; done) | (simp; omega) | (simp at *; omega)) ?_; refine anyW_all [3] (by kernel_rfl) rfl ?_; (focus (refine run_stepW hc rfl (by simp; exact Ends.go) (by first | exact True.intro | omega | (simp; done) | (simp; omega) | (simp at *; omega)) ?_; refine run_anyP 6 hc rfl (by kernel_rfl) rfl (by simp; exact Gives.mk) (by first | exact True.intro | omega | (simp; done) | (simp; omega) | (simp at *; omega)) (by simp) (by simp) (by simp; exact Gives.mk) ?_; refine anyW_all [7] (by kernel_rfl) rfl ?_; (focus (refine run_stepW hc rfl (by simp; exact Ends.go) (by first | exact True.intro | omega | (simp; done) | (simp; omega) | (simp at *; omega)) ?_; refine anyW_done (by kernel_rfl) ?_; exact run_back [4, 5] [4, 5] (by simp; exact Gives.mk) (by simp; exact Gives.mk) (by simp))))))))); (focus (refine run_stepW hc rfl (by simp; exact Ends.go) (by first | exact True.intro | omega | (simp; done) | (simp; omega) | (simp at *; omega)) ?_; refine anyW_all [1] (by kernel_rfl) rfl ?_; (focus (refine run_stepW hc rfl (by simp; exact Ends.go) (by first | exact True.intro | omega | (simp; done) | (simp; omega) | (simp at *; omega)) ?_; refine run_anyP 4 hc rfl (by kernel_rfl) rfl (by simp; exact Gives.mk) (by first | exact True.intro | omega | (simp; done) | (simp; omega) | (simp at *; omega)) (by simp) (by simp) (by simp; exact Gives.mk) ?_; refine anyW_all [5] (by kernel_rfl) rfl ?_; (focus (refine run_stepW hc rfl (by simp; exact Ends.go) (by first | exact True.intro | omega | (simp; done) | (simp; omega) | (simp at *; omega)) ?_; refine run_anyP 6 hc rfl (by kernel_rfl) rfl (by simp; exact Gives.mk) (by first | exact True.intro | omega | (simp; done) | (simp; omega) | (simp at *; omega)) (by simp) (by simp) (by simp; exact Gives.mk) ?_; refine anyW_all [7] (by kernel_rfl) rfl ?_; (focus (refine run_stepW hc rfl (by simp; exact Ends.go) (by first | exact True.intro | omega | (simp; done) | (simp; omega) | (simp at *; omega)) ?_; refine anyW_done (by kernel_rfl) ?_; exact run_back [4, 5] [4, 5] (by simp; exact Gives.mk) (by simp; exact Gives.mk) (by simp))))))))))))
      repeat' (first | (first | refine Ya ?_ | refine Yb ?_ | refine Yc ?_ | refine Yd ?_ | refine Ye ?_ | refine Yf ?_ | refine Yg ?_ | refine Yh ?_ | refine Yi ?_ | refine Yj ?_ | refine Yk ?_ | refine Yl ?_ | refine Ym ?_ | refine Yn ?_ | refine Yo ?_ | refine Yp (h := ?_) | refine Yq ?_ | refine Yr ?_ | refine Ys ?_ | refine Zr hc (hk := ?_) | refine Zd hc (hk := ?_) | (refine Zc (ht := fun hb => ?_) (hf := fun hb => ?_) <;> (try simp at hb)) | fail) | (first | refine Zo hc (hk := ?_) | refine Zu hc (hk := ?_) | refine Ze hc (hk := ?_) | refine Zn hc (hk := ?_) | fail))
      (refine Zl hc (hr := ?_))
      simp [*]
    · (refine Zl hc (hr := ?_))
      simp [*]
  · have hq0 : 0 < q1.length := List.length_pos_iff.2 hq
    rw [if_neg hq]
    repeat' (first | (first | refine Ya ?_ | refine Yb ?_ | refine Yc ?_ | refine Yd ?_ | refine Ye ?_ | refine Yf ?_ | refine Yg ?_ | refine Yh ?_ | refine Yi ?_ | refine Yj ?_ | refine Yk ?_ | refine Yl ?_ | refine Ym ?_ | refine Yn ?_ | refine Yo ?_ | refine Yp (h := ?_) | refine Yq ?_ | refine Yr ?_ | refine Ys ?_ | refine Zr hc (hk := ?_) | refine Zd hc (hk := ?_) | (refine Zc (ht := fun hb => ?_) (hf := fun hb => ?_) <;> (try simp at hb)) | fail) | (first | refine Zw hc (hf := by first | exact hc1 | exact hc2 | exact hB) (hk := ?_) | refine Zq hc (hf := by first | exact hc1 | exact hc2 | exact hB) (hk := ?_) | refine Zo hc (hk := ?_) | refine Zu hc (hk := ?_) | refine Ze hc (hk := ?_) | refine Zn hc (hk := ?_) | fail))
    all_goals try contradiction
    all_goals try (exfalso; omega)
    all_goals try ((refine Zl hc (hr := ?_)); simp [*]; done)
    (refine run_drawT 9 hc (by kernel_rfl) (by kernel_rfl) ?_; try simp only [List.take_succ_cons, List.take_zero, List.drop_succ_cons, List.drop_zero])
    repeat' (first | (first | refine Ya ?_ | refine Yb ?_ | refine Yc ?_ | refine Yd ?_ | refine Ye ?_ | refine Yf ?_ | refine Yg ?_ | refine Yh ?_ | refine Yi ?_ | refine Yj ?_ | refine Yk ?_ | refine Yl ?_ | refine Ym ?_ | refine Yn ?_ | refine Yo ?_ | refine Yp (h := ?_) | refine Yq ?_ | refine Yr ?_ | refine Ys ?_ | refine Zr hc (hk := ?_) | refine Zd hc (hk := ?_) | (refine Zc (ht := fun hb => ?_) (hf := fun hb => ?_) <;> (try simp at hb)) | fail) | (first | refine Zw hc (hf := by first | exact hc1 | exact hc2 | exact hB) (hk := ?_) | refine Zq hc (hf := by first | exact hc1 | exact hc2 | exact hB) (hk := ?_) | refine Zo hc (hk := ?_) | refine Zu hc (hk := ?_) | refine Ze hc (hk := ?_) | refine Zn hc (hk := ?_) | fail))
    · rename_i a1 a2
      rw [if_neg (by omega), if_neg (by omega)]
      (refine Zl hc (hr := ?_))
      simp [*]
    · rename_i a1 a2
      rw [if_neg (by omega), if_pos (by omega)]
      (refine Zl hc (hr := ?_))
      simp [*]
    · rw [if_pos (by omega)]
      (refine Zl hc (hr := ?_))
      simp [*]
/-- What a text means in a page. -/
def resP (b : Adr) (t : Bs) : Adr × Nat :=
  if t = [] then ({ b with frag := [], hasF := false }, 0)
  else if small (rowR t 0) = [] then (if [47, 47].isPrefixOf t = true then ((readC (b.scheme ++ 58 :: t)).1, (readC (b.scheme ++ 58 :: t)).2.2) else (meantR b t, 0))
  else if small (rowR t 0) = [104, 116, 116, 112] ∨ small (rowR t 0) = [104, 116, 116, 112, 115] then ((readC t).1, (readC t).2.2) else (Adr.zero, 4)
def resF (x : Adr × Nat) : Adr × Nat := if x.2 ≠ 0 then (Adr.zero, x.2) else if chkC x.1 ≠ 0 then (Adr.zero, chkC x.1) else ({ x.1 with path := undotP x.1.path }, 0)
def lkTrim (s : Bs) : Bs := Lib.trimS s [9, 10, 12, 13, 32]
def resR (b : Adr) (s : Bs) : Adr × Nat := if chkC b ≠ 0 then (Adr.zero, chkC b) else if 2000 < s.length then (Adr.zero, 2) else resF (resP b (lkTrim s))
theorem dropW_len (p : UInt8 → Bool) : ∀ l : Bs, (l.dropWhile p).length ≤ l.length
  | [] => Nat.le_refl _
  | c :: r => by
    have := dropW_len p r
    rw [List.dropWhile_cons]
    split <;> simp <;> omega
theorem lkTrim_len (s : Bs) : (lkTrim s).length ≤ s.length := by
  unfold lkTrim Lib.trimS Lib.trimLeftS Lib.trimRightS
  refine Nat.le_trans (dropW_len _ _) ?_
  rw [List.length_reverse]
  refine Nat.le_trans (dropW_len _ _) ?_
  simp
theorem trimA_ok (s : Bs) (hm : s.length ≤ 9223372036854775807) : FnOk Tryz.prog 66 [str s] (str (lkTrim s)) := by
  refine fnOk Tryz.func66 rfl (by kernel_rfl) Tryz.ntmps66 _ rfl (by simp) fun C hc => ?_
  have ht := trim_ok s [9, 10, 12, 13, 32] hm (by decide) (by decide)
  repeat' (first | (first | refine Ya ?_ | refine Yb ?_ | refine Yc ?_ | refine Yd ?_ | refine Ye ?_ | refine Yf ?_ | refine Yg ?_ | refine Yh ?_ | refine Yi ?_ | refine Yj ?_ | refine Yk ?_ | refine Yl ?_ | refine Ym ?_ | refine Yn ?_ | refine Yo ?_ | refine Yp (h := ?_) | refine Yq ?_ | refine Yr ?_ | refine Ys ?_ | refine Zr hc (hk := ?_) | refine Zd hc (hk := ?_) | (refine Zc (ht := fun hb => ?_) (hf := fun hb => ?_) <;> (try simp at hb)) | fail) | (first | refine Zw hc (hf := by exact ht) (hk := ?_) | refine Zq hc (hf := by exact ht) (hk := ?_) | refine Zo hc (hk := ?_) | refine Zu hc (hk := ?_) | refine Ze hc (hk := ?_) | refine Zn hc (hk := ?_) | fail))
  (refine Zl hc (hr := ?_))
  simp [lkTrim]
theorem chk_parts {b : Adr} (h : chkC b = 0) : b.scheme.length ≤ 2000 ∧ b.host.length ≤ 2000 ∧ b.port.length ≤ 2000 ∧ b.path.length ≤ 2000 ∧ b.query.length ≤ 2000 ∧ b.frag.length ≤ 2000 := by
  obtain ⟨hA, hl⟩ := (chk_iff b).1 h
  have hw : (writeA b).length = b.scheme.length + 3 + b.host.length + (pPart b).length + (b.path.length + (qPart b).length + (fPart b).length) := by simp [writeA, behindA]; omega
  have h1 : b.port.length ≤ (pPart b).length := by
    unfold pPart
    split
    · rename_i e; simp [e]
    · simp
  have h2 : b.query.length ≤ (qPart b).length := by
    unfold qPart
    split
    · simp
    · rename_i hq
      by_cases e : b.query = []
      · simp [e]
      · exact absurd (hA.hasQ e) hq
  have h3 : b.frag.length ≤ (fPart b).length := by
    unfold fPart
    split
    · simp
    · rename_i hq
      by_cases e : b.frag = []
      · simp [e]
      · exact absurd (hA.hasF e) hq
  omega
theorem resolve_ok (b : Adr) (s : Bs) (hbF : b.Fits) (hs : s.length ≤ 9223372036854775807) : FnOk Tryz.prog 37 [adrD b, str s] (.tup [adrD (resR b s).1, int (resR b s).2]) := by
  refine fnOk Tryz.func37 rfl (by kernel_rfl) Tryz.ntmps37 _ rfl (by simp) fun C hc => ?_
  have hCb := check_ok b hbF
  unfold resR
  by_cases hb0 : chkC b = 0
  rotate_left
  · rw [if_pos hb0]
    repeat' (first | (first | refine Ya ?_ | refine Yb ?_ | refine Yc ?_ | refine Yd ?_ | refine Ye ?_ | refine Yf ?_ | refine Yg ?_ | refine Yh ?_ | refine Yi ?_ | refine Yj ?_ | refine Yk ?_ | refine Yl ?_ | refine Ym ?_ | refine Yn ?_ | refine Yo ?_ | refine Yp (h := ?_) | refine Yq ?_ | refine Yr ?_ | refine Ys ?_ | refine Zr hc (hk := ?_) | refine Zd hc (hk := ?_) | (refine Zc (ht := fun hb => ?_) (hf := fun hb => ?_) <;> (try simp at hb)) | fail) | (first | refine Zw hc (hf := by exact hCb) (hk := ?_) | refine Zq hc (hf := by exact hCb) (hk := ?_) | refine Zo hc (hk := ?_) | refine Zu hc (hk := ?_) | refine Ze hc (hk := ?_) | refine Zn hc (hk := ?_) | fail))
    all_goals try contradiction
    (refine Zl hc (hr := ?_))
    simp
  rw [if_neg (by simpa using hb0)]
  rw [hb0] at hCb
  obtain ⟨p1, p2, p3, p4, p5, p6⟩ := chk_parts hb0
  by_cases hl : 2000 < s.length
  · rw [if_pos hl]
    repeat' (first | (first | refine Ya ?_ | refine Yb ?_ | refine Yc ?_ | refine Yd ?_ | refine Ye ?_ | refine Yf ?_ | refine Yg ?_ | refine Yh ?_ | refine Yi ?_ | refine Yj ?_ | refine Yk ?_ | refine Yl ?_ | refine Ym ?_ | refine Yn ?_ | refine Yo ?_ | refine Yp (h := ?_) | refine Yq ?_ | refine Yr ?_ | refine Ys ?_ | refine Zr hc (hk := ?_) | refine Zd hc (hk := ?_) | (refine Zc (ht := fun hb => ?_) (hf := fun hb => ?_) <;> (try simp at hb)) | fail) | (first | refine Zw hc (hf := by exact hCb) (hk := ?_) | refine Zq hc (hf := by exact hCb) (hk := ?_) | refine Zo hc (hk := ?_) | refine Zu hc (hk := ?_) | refine Ze hc (hk := ?_) | refine Zn hc (hk := ?_) | fail))
    all_goals try contradiction
    all_goals try (exfalso; omega)
    (refine Zl hc (hr := ?_))
    simp
  rw [if_neg hl]
  have hTr := trimA_ok s hs
  have htl := lkTrim_len s
  generalize lkTrim s = t at hTr htl ⊢
  have hRo := rowA_ok t (by omega)
  have hrl := rowR_len t 0
  have hSm := small_ok (rowR t 0) (by omega)
  have hRd := read_ok t (by omega)
  have hRd2 := read_ok (b.scheme ++ 58 :: t) (by simp; omega)
  have hMe := meantA_ok b t (by omega) (by omega)
  have hPr := hasPrefix_ok t [47, 47]
  have hC : ∀ x : Adr, x.Fits → FnOk Tryz.prog 15 [adrD x] (int (chkC x)) := check_ok
  have hU : ∀ x : Adr, x.path.length ≤ 100000 → FnOk Tryz.prog 70 [str x.path] (str (undotP x.path)) := fun x h => undot_ok x.path h
  have fz : ∀ u : Bs, (readC u).1.Fits ∧ (readC u).1.path.length ≤ 100000 := by
    intro u
    rcases readC_back u with ⟨_, h⟩ | ⟨_, _, h, _⟩
    · rw [h]
      exact ⟨⟨by simp, by simp, by simp, by simp, by simp, by simp⟩, by simp⟩
    · obtain ⟨q1, q2, q3, q4, q5, q6⟩ := chk_parts h
      exact ⟨⟨by omega, by omega, by omega, by omega, by omega, by omega⟩, by omega⟩
  have hne : ¬ t = [] → 0 < t.length := fun h => List.length_pos_iff.2 h
  unfold resP
  by_cases ht : t = []
  · rw [if_pos ht]
    have hC1 := hC { b with frag := [], hasF := false } ⟨by simp; omega, by simp; omega, by simp; omega, by simp; omega, by simp; omega, by simp⟩
    have hU1 := hU { b with frag := [], hasF := false } (by simp; omega)
    subst ht
    repeat' (first | (first | refine Ya ?_ | refine Yb ?_ | refine Yc ?_ | refine Yd ?_ | refine Ye ?_ | refine Yf ?_ | refine Yg ?_ | refine Yh ?_ | refine Yi ?_ | refine Yj ?_ | refine Yk ?_ | refine Yl ?_ | refine Ym ?_ | refine Yn ?_ | refine Yo ?_ | refine Yp (h := ?_) | refine Yq ?_ | refine Yr ?_ | refine Ys ?_ | refine Zr hc (hk := ?_) | refine Zd hc (hk := ?_) | (refine Zc (ht := fun hb => ?_) (hf := fun hb => ?_) <;> (try simp at hb)) | fail) | (first | refine Zw hc (hf := by first | exact hCb | exact hTr | exact hRo | exact hSm | exact hC1 | exact hU1) (hk := ?_) | refine Zq hc (hf := by first | exact hCb | exact hTr | exact hRo | exact hSm | exact hC1 | exact hU1) (hk := ?_) | refine Zo hc (hk := ?_) | refine Zu hc (hk := ?_) | refine Ze hc (hk := ?_) | refine Zn hc (hk := ?_) | fail))
    all_goals try (exfalso; omega)
    all_goals try contradiction
    all_goals (refine Zl hc (hr := ?_))
    all_goals simp [resF, *]
  rw [if_neg ht]
  by_cases hs0 : small (rowR t 0) = []
  · rw [if_pos hs0]
    rw [hs0] at hSm
    by_cases hp : [47, 47].isPrefixOf t = true
    · rw [if_pos hp]
      rw [hp] at hPr
      have f2 := fz (b.scheme ++ 58 :: t)
      generalize readC (b.scheme ++ 58 :: t) = r at hRd2 f2 ⊢
      obtain ⟨r, n, f⟩ := r
      simp only [readD] at hRd2 f2 ⊢
      have hC1 := hC r f2.1
      have hU1 := hU r f2.2
      repeat' (first | (first | refine Ya ?_ | refine Yb ?_ | refine Yc ?_ | refine Yd ?_ | refine Ye ?_ | refine Yf ?_ | refine Yg ?_ | refine Yh ?_ | refine Yi ?_ | refine Yj ?_ | refine Yk ?_ | refine Yl ?_ | refine Ym ?_ | refine Yn ?_ | refine Yo ?_ | refine Yp (h := ?_) | refine Yq ?_ | refine Yr ?_ | refine Ys ?_ | refine Zr hc (hk := ?_) | refine Zd hc (hk := ?_) | (refine Zc (ht := fun hb => ?_) (hf := fun hb => ?_) <;> (try simp at hb)) | fail) | (first | refine Zw hc (hf := by first | exact hCb | exact hTr | exact hRo | exact hSm | exact hPr | exact hRd2 | exact hC1 | exact hU1) (hk := ?_) | refine Zq hc (hf := by first | exact hCb | exact hTr | exact hRo | exact hSm | exact hPr | exact hRd2 | exact hC1 | exact hU1) (hk := ?_) | refine Zo hc (hk := ?_) | refine Zu hc (hk := ?_) | refine Ze hc (hk := ?_) | refine Zn hc (hk := ?_) | fail))
      all_goals try (exfalso; omega)
      all_goals try contradiction
      all_goals (refine Zl hc (hr := ?_))
      all_goals simp [resF, *]
    · rw [if_neg hp]
      rw [Bool.eq_false_iff.2 hp] at hPr
      have fm : (meantR b t).Fits ∧ (meantR b t).path.length ≤ 100000 := by
        have l1 : (cutF t).1.length ≤ t.length ∧ (cutF t).2.1.length ≤ t.length := cut_lk 35 t
        have l2 : (cutQ t).1.length ≤ (cutF t).1.length ∧ (cutQ t).2.1.length ≤ (cutF t).1.length := cut_lk 63 (cutF t).1
        have l3 := pathM_len b.path (cutQ t).1
        have l4 : (if (cutQ t).1 = [] ∧ (cutQ t).2.2 = false then b.query else (cutQ t).2.1).length ≤ 2000 := by split <;> omega
        exact ⟨⟨by simp only [meantR]; omega, by simp only [meantR]; omega, by simp only [meantR]; omega, by simp only [meantR]; omega, by simp only [meantR]; omega, by simp only [meantR]; omega⟩, by simp only [meantR]; omega⟩
      generalize meantR b t = r at hMe fm ⊢
      have hC1 := hC r fm.1
      have hU1 := hU r fm.2
      repeat' (first | (first | refine Ya ?_ | refine Yb ?_ | refine Yc ?_ | refine Yd ?_ | refine Ye ?_ | refine Yf ?_ | refine Yg ?_ | refine Yh ?_ | refine Yi ?_ | refine Yj ?_ | refine Yk ?_ | refine Yl ?_ | refine Ym ?_ | refine Yn ?_ | refine Yo ?_ | refine Yp (h := ?_) | refine Yq ?_ | refine Yr ?_ | refine Ys ?_ | refine Zr hc (hk := ?_) | refine Zd hc (hk := ?_) | (refine Zc (ht := fun hb => ?_) (hf := fun hb => ?_) <;> (try simp at hb)) | fail) | (first | refine Zw hc (hf := by first | exact hCb | exact hTr | exact hRo | exact hSm | exact hPr | exact hMe | exact hC1 | exact hU1) (hk := ?_) | refine Zq hc (hf := by first | exact hCb | exact hTr | exact hRo | exact hSm | exact hPr | exact hMe | exact hC1 | exact hU1) (hk := ?_) | refine Zo hc (hk := ?_) | refine Zu hc (hk := ?_) | refine Ze hc (hk := ?_) | refine Zn hc (hk := ?_) | fail))
      all_goals try (exfalso; omega)
      all_goals try contradiction
      all_goals (refine Zl hc (hr := ?_))
      all_goals simp [resF, *]
  rw [if_neg hs0]
  have f1 := fz t
  generalize readC t = r at hRd f1 ⊢
  obtain ⟨r, n, f⟩ := r
  simp only [readD] at hRd f1 ⊢
  have hC1 := hC r f1.1
  have hU1 := hU r f1.2
  generalize small (rowR t 0) = sm at hSm hs0 ⊢
  by_cases hh : sm = [104, 116, 116, 112] ∨ sm = [104, 116, 116, 112, 115]
  · rw [if_pos hh]
    rcases hh with rfl | rfl
    all_goals repeat' (first | (first | refine Ya ?_ | refine Yb ?_ | refine Yc ?_ | refine Yd ?_ | refine Ye ?_ | refine Yf ?_ | refine Yg ?_ | refine Yh ?_ | refine Yi ?_ | refine Yj ?_ | refine Yk ?_ | refine Yl ?_ | refine Ym ?_ | refine Yn ?_ | refine Yo ?_ | refine Yp (h := ?_) | refine Yq ?_ | refine Yr ?_ | refine Ys ?_ | refine Zr hc (hk := ?_) | refine Zd hc (hk := ?_) | (refine Zc (ht := fun hb => ?_) (hf := fun hb => ?_) <;> (try simp at hb)) | fail) | (first | refine Zw hc (hf := by first | exact hCb | exact hTr | exact hRo | exact hSm | exact hRd | exact hC1 | exact hU1) (hk := ?_) | refine Zq hc (hf := by first | exact hCb | exact hTr | exact hRo | exact hSm | exact hRd | exact hC1 | exact hU1) (hk := ?_) | refine Zo hc (hk := ?_) | refine Zu hc (hk := ?_) | refine Ze hc (hk := ?_) | refine Zn hc (hk := ?_) | fail))
    all_goals try (exfalso; omega)
    all_goals try contradiction
    all_goals (refine Zl hc (hr := ?_))
    all_goals simp [resF, *]
  · rw [if_neg hh]
    obtain ⟨hh1, hh2⟩ := not_or.1 hh
    repeat' (first | (first | refine Ya ?_ | refine Yb ?_ | refine Yc ?_ | refine Yd ?_ | refine Ye ?_ | refine Yf ?_ | refine Yg ?_ | refine Yh ?_ | refine Yi ?_ | refine Yj ?_ | refine Yk ?_ | refine Yl ?_ | refine Ym ?_ | refine Yn ?_ | refine Yo ?_ | refine Yp (h := ?_) | refine Yq ?_ | refine Yr ?_ | refine Ys ?_ | refine Zr hc (hk := ?_) | refine Zd hc (hk := ?_) | (refine Zc (ht := fun hb => ?_) (hf := fun hb => ?_) <;> (try simp at hb)) | fail) | (first | refine Zw hc (hf := by first | exact hCb | exact hTr | exact hRo | exact hSm) (hk := ?_) | refine Zq hc (hf := by first | exact hCb | exact hTr | exact hRo | exact hSm) (hk := ?_) | refine Zo hc (hk := ?_) | refine Zu hc (hk := ?_) | refine Ze hc (hk := ?_) | refine Zn hc (hk := ?_) | fail))
    all_goals try (exfalso; omega)
    all_goals try contradiction
    all_goals try (exfalso; simp_all; done)
    all_goals (refine Zl hc (hr := ?_))
    all_goals simp [resF]
end Go.Proofs.YtjbabjfmcganpaaGreatDoor
