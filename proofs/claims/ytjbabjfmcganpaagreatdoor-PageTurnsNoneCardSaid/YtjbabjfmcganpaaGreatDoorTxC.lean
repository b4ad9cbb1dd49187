/-
  THE REFERENCE OF CHAPTER 3: bytes, names, comments, values. (WITH run_drawN.)
-/
import Derived.Test.YtjbabjfmcganpaaGreatDoorPgTok
import Derived.Test.YtjbabjfmcganpaaGreatDoorLibS
import Derived.Test.YtjbabjfmcganpaaGreatDoorPgAtt
set_option linter.unusedSimpArgs false
set_option linter.unusedVariables false
namespace Go.Proofs.YtjbabjfmcganpaaGreatDoor
open Go.Lw
set_option maxRecDepth 100000
set_option maxHeartbeats 1000000

def inB (m : Bs) (c : UInt8) : Bool := isLet c || isDig c || m.contains c
/-! A value. -/
end Go.Proofs.YtjbabjfmcganpaaGreatDoor
/-
  THE REFERENCE OF CHAPTER 3: attributes, beginnings of tags, tokens. (WITH run_drawN.)
-/
set_option linter.unusedSimpArgs false
set_option linter.unusedVariables false
namespace Go.Proofs.YtjbabjfmcganpaaGreatDoor
open Go.Lw
set_option maxRecDepth 100000
set_option maxHeartbeats 1000000

/-! What a text means. -/
@[simp] theorem one_rowR : oneByte ∘ byteRow = id := by funext b; simp [oneByte, byteRow]
abbrev u8n (n : Int) : D := .lit (.int .u8 n)
end Go.Proofs.YtjbabjfmcganpaaGreatDoor
/-
  PAGE: sets of images, and those of the reference. (WITH run_drawN.)
-/
set_option linter.unusedSimpArgs false
set_option linter.unusedVariables false
namespace Go.Proofs.YtjbabjfmcganpaaGreatDoor
open Go.Lw
set_option maxRecDepth 100000
set_option maxHeartbeats 1000000

def nBl (c : UInt8) : Bool := !isBl c
/-- As far as bytes are of a kind, and no further than to a place. -/
def bsk (p : UInt8 → Bool) (l : Bs) (i n : Nat) : Nat := min (skip p l i) n
theorem bsk_step {p : UInt8 → Bool} {l : Bs} {i n : Nat} (h : i < n) (hn : n ≤ l.length) : bsk p l i n = if p (l[i]?.getD 0) = true then bsk p l (i + 1) n else i := by
  unfold bsk
  rw [skip_step p l i (by omega)]
  split
  · rfl
  · omega
theorem bsk_end {p : UInt8 → Bool} {l : Bs} {i n : Nat} (h : n ≤ i) : bsk p l i n = n := by
  unfold bsk
  have := skip_ge p l i
  omega
theorem bsk_ge {p : UInt8 → Bool} {l : Bs} {i n : Nat} (h : i ≤ n) : i ≤ bsk p l i n ∧ bsk p l i n ≤ n := by
  unfold bsk
  have := skip_ge p l i
  omega
def sp (l : Bs) (a n : Nat) : List (Nat × Nat) := if bsk isBl l a n < bsk nBl l (bsk isBl l a n) n then [(bsk isBl l a n, bsk nBl l (bsk isBl l a n) n)] else []
def img (l : Bs) (L : List Bs) : Nat → List (Nat × Nat)
  | 0 => []
  | k + 1 => img l L k ++ sp l (offs L k) (offs L k + (L[k]?.getD []).length)
theorem sp_len (l : Bs) (a n : Nat) : (sp l a n).length ≤ 1 := by unfold sp; split <;> simp
theorem img_len (l : Bs) (L : List Bs) (k : Nat) : (img l L k).length ≤ k := by
  induction k with
  | zero => simp [img]
  | succ k ih => have := sp_len l (offs L k) (offs L k + (L[k]?.getD []).length); simp [img]; omega
abbrev encS (x : Nat × Nat) : List D := [int x.1, int x.2]
abbrev zS : List D := [.lit (.int .i64 0), .lit (.int .i64 0)]
abbrev spSl (m : List (Nat × Nat)) : D := .sl m.length fun i => encS (m[i]?.getD (0, 0))
@[simp] theorem getD_encS (o : Option (Nat × Nat)) : (Option.map encS o).getD [.lit (.int .i64 0), .lit (.int .i64 0)] = encS (o.getD (0, 0)) := by cases o <;> rfl
theorem images_ok (l : Bs) (hm : l.length ≤ 200000) : FnOk Tryz.prog 76 [str l] (spSl (img l (Lib.split l [44]) (Lib.split l [44]).length)) := by
  have hsp := split_ok l 44 (by omega)
  have hof := split_offs l 44
  have hsl := split_len l 44
  generalize Lib.split l [44] = L at hsp hof hsl ⊢
  refine fnOk Tryz.func76 rfl (by kernel_rfl) Tryz.ntmps76 _ rfl (by simp) fun C hc => ?_
  repeat' (first | (first | refine Ya ?_ | refine Yb ?_ | refine Yc ?_ | refine Yd ?_ | refine Ye ?_ | refine Yf ?_ | refine Yg ?_ | refine Yh ?_ | refine Yi ?_ | refine Yj ?_ | refine Yk ?_ | refine Yl ?_ | refine Ym ?_ | refine Yn ?_ | refine Yo ?_ | refine Yp (h := ?_) | refine Yq ?_ | refine Yr ?_ | refine Ys ?_ | refine Zr hc (hk := ?_) | refine Zd hc (hk := ?_) | (refine Zc (ht := fun hb => ?_) (hf := fun hb => ?_) <;> (try simp at hb)) | fail) | (first | refine Zw hc (hf := by exact hsp) (hk := ?_) | refine Zq hc (hf := by exact hsp) (hk := ?_) | refine Zo hc (hk := ?_) | refine Zu hc (hk := ?_) | refine Ze hc (hk := ?_) | refine Zn hc (hk := ?_) | fail))
  refine ewp_loop (fun x : Nat × List (Nat × Nat) => ⟨[(0, .d (str l)), (3, .os 40000 x.2.length), (4, .d (int (offs L x.1))), (11, .d (strSl L)), (12, .d (int L.length)), (13, .d (int x.1))], [(40000, .own 31 2 (true, zS) (x.2.map encS))]⟩) (fun x => x.1 ≤ L.length ∧ x.2 = img l L x.1) (fun x => L.length - x.1) (0, []) (by simp [img]) (run_keepB [(3, none, 40000, 31, zS)] [0, 3, 4, 11, 12, 13] [40000] (by simp; exact Gives.mk) (by simp; exact Gives.mk) (by simp; exact Gives.mk)) ?_
  rintro ⟨k, m⟩ ⟨h1, h2⟩
  simp only at h1 h2 ⊢
  have hml : m.length ≤ k := by rw [h2]; exact img_len l L k
  have hofk := hof k
  have hnx := offs_next L k
  have him : img l L (k + 1) = m ++ sp l (offs L k) (offs L k + (L[k]?.getD []).length) := by rw [h2]; rfl
  by_cases hk : k < L.length
  rotate_left
  · have hke : k = L.length := by omega
    repeat' (first | (first | refine Ya ?_ | refine Yb ?_ | refine Yc ?_ | refine Yd ?_ | refine Ye ?_ | refine Yf ?_ | refine Yg ?_ | refine Yh ?_ | refine Yi ?_ | refine Yj ?_ | refine Yk ?_ | refine Yl ?_ | refine Ym ?_ | refine Yn ?_ | refine Yo ?_ | refine Yp (h := ?_) | refine Yq ?_ | refine Yr ?_ | refine Ys ?_ | refine Zr hc (hk := ?_) | refine Zd hc (hk := ?_) | (refine Zc (ht := fun hb => ?_) (hf := fun hb => ?_) <;> (try simp at hb)) | fail) | (first | refine Zo hc (hk := ?_) | refine Zu hc (hk := ?_) | refine Ze hc (hk := ?_) | refine Zn hc (hk := ?_) | fail))
    · exfalso; omega
    · rw [← hke, ← h2]
      (refine Zl hc (hr := ?_))
      simp
  replace hofk := hofk hk
  replace hnx := hnx hk
  generalize offs L k = a at hofk hnx him ⊢
  repeat' (first | (first | refine Ya ?_ | refine Yb ?_ | refine Yc ?_ | refine Yd ?_ | refine Ye ?_ | refine Yf ?_ | refine Yg ?_ | refine Yh ?_ | refine Yi ?_ | refine Yj ?_ | refine Yk ?_ | refine Yl ?_ | refine Ym ?_ | refine Yn ?_ | refine Yo ?_ | refine Yp (h := ?_) | refine Yq ?_ | refine Yr ?_ | refine Ys ?_ | refine Zr hc (hk := ?_) | refine Zd hc (hk := ?_) | (refine Zc (ht := fun hb => ?_) (hf := fun hb => ?_) <;> (try simp at hb)) | fail) | (first | refine Zo hc (hk := ?_) | refine Zu hc (hk := ?_) | refine Ze hc (hk := ?_) | refine Zn hc (hk := ?_) | fail))
  · generalize L[k]?.getD [] = x at hofk hnx him ⊢
    repeat' (first | (first | refine Ya ?_ | refine Yb ?_ | refine Yc ?_ | refine Yd ?_ | refine Ye ?_ | refine Yf ?_ | refine Yg ?_ | refine Yh ?_ | refine Yi ?_ | refine Yj ?_ | refine Yk ?_ | refine Yl ?_ | refine Ym ?_ | refine Yn ?_ | refine Yo ?_ | refine Yp (h := ?_) | refine Yq ?_ | refine Yr ?_ | refine Ys ?_ | refine Zr hc (hk := ?_) | refine Zd hc (hk := ?_) | (refine Zc (ht := fun hb => ?_) (hf := fun hb => ?_) <;> (try simp at hb)) | fail) | (first | refine Zo hc (hk := ?_) | refine Zu hc (hk := ?_) | refine Ze hc (hk := ?_) | refine Zn hc (hk := ?_) | fail))
    refine ewp_loop (fun j : Nat => ⟨[(0, .d (str l)), (3, .os 40000 m.length), (7, .d (int j)), (8, .d (int (a + x.length))), (11, .d (strSl L)), (12, .d (int L.length)), (13, .d (int k))], [(40000, .own 31 2 (true, zS) (m.map encS))]⟩) (fun j => a ≤ j ∧ j ≤ a + x.length ∧ bsk isBl l j (a + x.length) = bsk isBl l a (a + x.length)) (fun j => a + x.length - j) a (by simp) (run_keep [0, 3, 7, 8, 11, 12, 13] [40000] (by simp; exact Gives.mk) (by simp; exact Gives.mk)) ?_
    rintro j ⟨j1, j2, j3⟩
    have js := fun h => bsk_step (p := isBl) (l := l) (i := j) h hofk
    have je := fun h => bsk_end (p := isBl) (l := l) (i := j) (n := a + x.length) h
    repeat' (first | (first | refine Ya ?_ | refine Yb ?_ | refine Yc ?_ | refine Yd ?_ | refine Ye ?_ | refine Yf ?_ | refine Yg ?_ | refine Yh ?_ | refine Yi ?_ | refine Yj ?_ | refine Yk ?_ | refine Yl ?_ | refine Ym ?_ | refine Yn ?_ | refine Yo ?_ | refine Yp (h := ?_) | refine Yq ?_ | refine Yr ?_ | refine Ys ?_ | refine Zr hc (hk := ?_) | refine Zd hc (hk := ?_) | (refine Zc (ht := fun hb => ?_) (hf := fun hb => ?_) <;> (try simp at hb)) | fail) | (first | refine Zw hc (hf := by exact blank_ok _) (hk := ?_) | refine Zq hc (hf := by exact blank_ok _) (hk := ?_) | refine Zo hc (hk := ?_) | refine Zu hc (hk := ?_) | refine Ze hc (hk := ?_) | refine Zn hc (hk := ?_) | fail))
    · exact ⟨j + 1, ⟨by omega, by omega, by rw [← j3, js (by omega), if_pos hb.2]⟩, by omega, run_back [0, 3, 7, 8, 11, 12, 13] [40000] (by simp; exact Gives.mk) (by simp; exact Gives.mk) (by simp)⟩
    · have hf : bsk isBl l a (a + x.length) = j := by
        rw [← j3]
        by_cases h : j < a + x.length
        · rw [js h, if_neg (by rw [hb (by omega)]; decide)]
        · rw [je (by omega)]; omega
      unfold sp at him
      rw [hf] at him
      refine ewp_loop (fun i : Nat => ⟨[(0, .d (str l)), (3, .os 40000 m.length), (7, .d (int j)), (8, .d (int (a + x.length))), (9, .d (int i)), (11, .d (strSl L)), (12, .d (int L.length)), (13, .d (int k))], [(40000, .own 31 2 (true, zS) (m.map encS))]⟩) (fun i => j ≤ i ∧ i ≤ a + x.length ∧ bsk nBl l i (a + x.length) = bsk nBl l j (a + x.length)) (fun i => a + x.length - i) j (by simp; omega) (run_keep [0, 3, 7, 8, 9, 11, 12, 13] [40000] (by simp; exact Gives.mk) (by simp; exact Gives.mk)) ?_
      rintro i ⟨i1, i2, i3⟩
      have is := fun h => bsk_step (p := nBl) (l := l) (i := i) h hofk
      have ie := fun h => bsk_end (p := nBl) (l := l) (i := i) (n := a + x.length) h
      have hnb : nBl (l[i]?.getD 0) = !isBl (l[i]?.getD 0) := rfl
      repeat' (first | (first | refine Ya ?_ | refine Yb ?_ | refine Yc ?_ | refine Yd ?_ | refine Ye ?_ | refine Yf ?_ | refine Yg ?_ | refine Yh ?_ | refine Yi ?_ | refine Yj ?_ | refine Yk ?_ | refine Yl ?_ | refine Ym ?_ | refine Yn ?_ | refine Yo ?_ | refine Yp (h := ?_) | refine Yq ?_ | refine Yr ?_ | refine Ys ?_ | refine Zr hc (hk := ?_) | refine Zd hc (hk := ?_) | (refine Zc (ht := fun hb => ?_) (hf := fun hb => ?_) <;> (try simp at hb)) | fail) | (first | refine Zw hc (hf := by exact blank_ok _) (hk := ?_) | refine Zq hc (hf := by exact blank_ok _) (hk := ?_) | refine Zo hc (hk := ?_) | refine Zu hc (hk := ?_) | refine Ze hc (hk := ?_) | refine Zn hc (hk := ?_) | fail))
      · exact ⟨i + 1, ⟨by omega, by omega, by rw [← i3, is (by omega), if_pos (by rw [hnb, hb.2]; rfl)]⟩, by omega, run_back [0, 3, 7, 8, 9, 11, 12, 13] [40000] (by simp; exact Gives.mk) (by simp; exact Gives.mk) (by simp)⟩
      all_goals
        have ht : bsk nBl l j (a + x.length) = i := by
          rw [← i3]
          by_cases h : i < a + x.length
          · rw [is h, if_neg (by rw [hnb, (show (i : Int) < a + x.length → isBl (l[i]?.getD 0) = true by assumption) (by omega)]; decide)]
          · rw [ie (by omega)]; omega
        rw [ht] at him
      · rw [if_pos hb] at him
        exact ⟨(k + 1, m ++ [(j, i)]), ⟨by simp; omega, him.symm⟩, by simp; omega, run_back [0, 3, 4, 11, 12, 13] [40000] (by simp; exact Gives.mk) (by simp; exact Gives.mk) (by simp [hnx])⟩
      · rw [if_neg (by omega), List.append_nil] at him
        exact ⟨(k + 1, m), ⟨by simp; omega, him.symm⟩, by simp; omega, run_back [0, 3, 4, 11, 12, 13] [40000] (by simp; exact Gives.mk) (by simp; exact Gives.mk) (by simp [hnx])⟩
  · exfalso; omega
end Go.Proofs.YtjbabjfmcganpaaGreatDoor
/-
  PAGE: addresses in styles. (WITH run_drawN.)
-/
set_option linter.unusedSimpArgs false
set_option linter.unusedVariables false
namespace Go.Proofs.YtjbabjfmcganpaaGreatDoor
open Go.Lw
set_option maxRecDepth 100000
set_option maxHeartbeats 1000000

def wrd (l : Bs) (i : Nat) (w : Bs) : Bool := decide (i + w.length ≤ l.length) && decide (small ((l.take (i + w.length)).drop i) = w)
theorem wrd_len {l : Bs} {i : Nat} {w : Bs} (h : wrd l i w = true) : i + w.length ≤ l.length := by
  simp only [wrd, Bool.and_eq_true, decide_eq_true_eq] at h
  exact h.1
theorem word_ok (l w : Bs) (i : Nat) (hi : i ≤ l.length) (hm : l.length ≤ 200000) (hw : w.length ≤ 200000) :
    FnMem Tryz.prog 60 [.bp 100000 0, .d (str w)] (scn l i) (.d (tru (wrd l i w))) (scn l ((if wrd l i w = true then i + w.length else i : Nat) : Int)) := by
  refine fnMem Tryz.func60 rfl (by kernel_rfl) Tryz.ntmps60 _ rfl (by simp) fun C hc => ?_
  by_cases h : i + w.length ≤ l.length
  · have hsm := small_ok ((l.take (i + w.length)).drop i) (by simp; omega)
    have eT : ((i : Int) + (w.length : Int)).toNat = i + w.length := by omega
    repeat' (first | (first | refine Ya ?_ | refine Yb ?_ | refine Yc ?_ | refine Yd ?_ | refine Ye ?_ | refine Yf ?_ | refine Yg ?_ | refine Yh ?_ | refine Yi ?_ | refine Yj ?_ | refine Yk ?_ | refine Yl ?_ | refine Ym ?_ | refine Yn ?_ | refine Yo ?_ | refine Yp (h := ?_) | refine Yq ?_ | refine Yr ?_ | refine Ys ?_ | refine Zr hc (hk := ?_) | refine Zd hc (hk := ?_) | (refine Zc (ht := fun hb => ?_) (hf := fun hb => ?_) <;> (try simp at hb)) | fail) | (first | refine Zw hc (hf := by exact small_ok _ (by simp; omega)) (hk := ?_) | refine Zq hc (hf := by exact small_ok _ (by simp; omega)) (hk := ?_) | refine Zo hc (hk := ?_) | refine Zu hc (hk := ?_) | refine Ze hc (hk := ?_) | refine Zn hc (hk := ?_) | fail))
    · have hf : wrd l i w = false := by
        simp only [wrd, Bool.and_eq_false_iff, decide_eq_false_iff_not]
        right
        intro e
        rcases hb with hb | hb
        · omega
        · exact hb e
      rw [hf]
      (refine run_leaveM [100000] hc (le_end rfl) (by simp; exact Gives.mk) (by simp; exact Gives.mk) (by first | (simp; done) | (simp; omega)) ?_)
      (first | (simp; done) | (simp; omega))
    · have hf : wrd l i w = true := by
        simp only [wrd, Bool.and_eq_true, decide_eq_true_eq]
        exact ⟨h, hb.2⟩
      rw [hf]
      (refine run_leaveM [100000] hc (le_end rfl) (by simp; exact Gives.mk) (by simp; exact Gives.mk) (by first | (simp; done) | (simp; omega)) ?_)
      (first | (simp; done) | (simp; omega))
  · have hf : wrd l i w = false := by
      simp only [wrd, Bool.and_eq_false_iff, decide_eq_false_iff_not]
      exact .inl h
    rw [hf]
    repeat' (first | (first | refine Ya ?_ | refine Yb ?_ | refine Yc ?_ | refine Yd ?_ | refine Ye ?_ | refine Yf ?_ | refine Yg ?_ | refine Yh ?_ | refine Yi ?_ | refine Yj ?_ | refine Yk ?_ | refine Yl ?_ | refine Ym ?_ | refine Yn ?_ | refine Yo ?_ | refine Yp (h := ?_) | refine Yq ?_ | refine Yr ?_ | refine Ys ?_ | refine Zr hc (hk := ?_) | refine Zd hc (hk := ?_) | (refine Zc (ht := fun hb => ?_) (hf := fun hb => ?_) <;> (try simp at hb)) | fail) | (first | refine Zw hc (hf := by exact small_ok _ (by simp; omega)) (hk := ?_) | refine Zq hc (hf := by exact small_ok _ (by simp; omega)) (hk := ?_) | refine Zo hc (hk := ?_) | refine Zu hc (hk := ?_) | refine Ze hc (hk := ?_) | refine Zn hc (hk := ?_) | fail))
    · (refine run_leaveM [100000] hc (le_end rfl) (by simp; exact Gives.mk) (by simp; exact Gives.mk) (by first | (simp; done) | (simp; omega)) ?_)
      (first | (simp; done) | (simp; omega))
    · exfalso; omega
def qB (c : UInt8) : Bool := decide (c.toNat ≠ 34) && decide (c.toNat ≠ 39) && decide (c.toNat ≠ 10) && decide (c.toNat ≠ 41)
theorem quotedF_ok (c : UInt8) : FnOk Tryz.prog 100 [u8 c] (tru (qB c)) := by
  refine fnOk Tryz.func100 rfl (by kernel_rfl) Tryz.ntmps100 _ rfl (by simp) fun C hc => ?_
  repeat' (first | refine Ya ?_ | refine Yb ?_ | refine Yc ?_ | refine Yd ?_ | refine Ye ?_ | refine Yf ?_ | refine Yg ?_ | refine Yh ?_ | refine Yi ?_ | refine Yj ?_ | refine Yk ?_ | refine Yl ?_ | refine Ym ?_ | refine Yn ?_ | refine Yo ?_ | refine Yp (h := ?_) | refine Yq ?_ | refine Yr ?_ | refine Ys ?_ | refine Zr hc (hk := ?_) | refine Zd hc (hk := ?_) | (refine Zc (ht := fun hb => ?_) (hf := fun hb => ?_) <;> (try simp at hb)) | fail)
  (refine Zl hc (hr := ?_))
  refine res_bool ?_
  rw [Bool.eq_iff_iff]; simp [qB]; omega
def uset : Bs := [34, 39, 40, 41]
def uB (c : UInt8) : Bool := !isBl c && !uset.contains c
theorem urlF_ok (c : UInt8) : FnOk Tryz.prog 64 [u8 c] (tru (uB c)) := by
  refine fnOk Tryz.func64 rfl (by kernel_rfl) Tryz.ntmps64 _ rfl (by simp) fun C hc => ?_
  repeat' (first | (first | refine Ya ?_ | refine Yb ?_ | refine Yc ?_ | refine Yd ?_ | refine Ye ?_ | refine Yf ?_ | refine Yg ?_ | refine Yh ?_ | refine Yi ?_ | refine Yj ?_ | refine Yk ?_ | refine Yl ?_ | refine Ym ?_ | refine Yn ?_ | refine Yo ?_ | refine Yp (h := ?_) | refine Yq ?_ | refine Yr ?_ | refine Ys ?_ | refine Zr hc (hk := ?_) | refine Zd hc (hk := ?_) | (refine Zc (ht := fun hb => ?_) (hf := fun hb => ?_) <;> (try simp at hb)) | fail) | (first | refine Zw hc (hf := by first | exact blank_ok _ | exact indexByte_ok uset _) (hk := ?_) | refine Zq hc (hf := by first | exact blank_ok _ | exact indexByte_ok uset _) (hk := ?_) | refine Zo hc (hk := ?_) | refine Zu hc (hk := ?_) | refine Ze hc (hk := ?_) | refine Zn hc (hk := ?_) | fail))
  (refine Zl hc (hr := ?_))
  refine res_bool ?_
  have := index_neg uset c
  rw [Bool.eq_iff_iff]; cases h : isBl c <;> simp [uB, h, this]
def isQ (l : Bs) (i : Nat) : Prop := l[i]? = some 34 ∨ l[i]? = some 39
instance (l : Bs) (i : Nat) : Decidable (isQ l i) := by unfold isQ; infer_instance
/-- Between two quotes: the span, if there is one; the place behind. -/
def quo (l : Bs) (i : Nat) : Option (Nat × Nat) × Nat :=
  if isQ l i then
    if skip qB l (i + 1) < l.length ∧ l[skip qB l (i + 1)]?.getD 0 = l[i]?.getD 0 then (some (i + 1, skip qB l (i + 1)), skip qB l (i + 1) + 1) else (none, skip qB l (i + 1))
  else (none, i)
@[simp] def spD : Option (Nat × Nat) → D
  | some x => .tup [.agg (encS x), tru true]
  | none => .tup [.agg zS, tru false]
theorem quoted_ok (l : Bs) (i : Nat) (hi : i ≤ l.length) (hm : l.length ≤ 200000) :
    FnMem Tryz.prog 63 [.bp 100000 0] (scn l i) (.d (spD (quo l i).1)) (scn l (quo l i).2) := by
  refine fnMem Tryz.func63 rfl (by kernel_rfl) Tryz.ntmps63 _ rfl (by simp) fun C hc => ?_
  have hq := has_ok l [34] i hi hm
  have hs := has_ok l [39] i hi hm
  rw [pre_one] at hq hs
  unfold quo
  by_cases h : isQ l i
  rotate_left
  · rw [if_neg h]
    have h1 : ¬ l[i]? = some 34 := fun e => h (.inl e)
    have h2 : ¬ l[i]? = some 39 := fun e => h (.inr e)
    rw [decide_eq_false h1] at hq
    rw [decide_eq_false h2] at hs
    repeat' (first | (first | refine Ya ?_ | refine Yb ?_ | refine Yc ?_ | refine Yd ?_ | refine Ye ?_ | refine Yf ?_ | refine Yg ?_ | refine Yh ?_ | refine Yi ?_ | refine Yj ?_ | refine Yk ?_ | refine Yl ?_ | refine Ym ?_ | refine Yn ?_ | refine Yo ?_ | refine Yp (h := ?_) | refine Yq ?_ | refine Yr ?_ | refine Ys ?_ | refine Zr hc (hk := ?_) | refine Zd hc (hk := ?_) | (refine Zc (ht := fun hb => ?_) (hf := fun hb => ?_) <;> (try simp at hb)) | fail) | (first | refine Zw hc (hf := by first | exact hq | exact hs) (hk := ?_) | refine Zq hc (hf := by first | exact hq | exact hs) (hk := ?_) | refine Zo hc (hk := ?_) | refine Zu hc (hk := ?_) | refine Ze hc (hk := ?_) | refine Zn hc (hk := ?_) | fail))
    all_goals try contradiction
    (refine run_leaveM [100000] hc (le_end rfl) (by simp; exact Gives.mk) (by simp; exact Gives.mk) (by first | (simp; done) | (simp; omega)) ?_)
    (first | (simp; done) | (simp; omega))
  rw [if_pos h]
  have hlt : i < l.length := by rcases h with h | h <;> exact (List.getElem?_eq_some_iff.1 h).1
  have h1 := skip_ge qB l (i + 1)
  have h2 := skip_le qB l (i + 1) (by omega)
  have hsk := some_ok qB _ quotedF_ok l (i + 1) (by omega) hm
  generalize skip qB l (i + 1) = e at h1 h2 hsk ⊢
  repeat' (first | (first | refine Ya ?_ | refine Yb ?_ | refine Yc ?_ | refine Yd ?_ | refine Ye ?_ | refine Yf ?_ | refine Yg ?_ | refine Yh ?_ | refine Yi ?_ | refine Yj ?_ | refine Yk ?_ | refine Yl ?_ | refine Ym ?_ | refine Yn ?_ | refine Yo ?_ | refine Yp (h := ?_) | refine Yq ?_ | refine Yr ?_ | refine Ys ?_ | refine Zr hc (hk := ?_) | refine Zd hc (hk := ?_) | (refine Zc (ht := fun hb => ?_) (hf := fun hb => ?_) <;> (try simp at hb)) | fail) | (first | refine Zw hc (hf := by first | exact hq | exact hs) (hk := ?_) | refine Zq hc (hf := by first | exact hq | exact hs) (hk := ?_) | refine Zo hc (hk := ?_) | refine Zu hc (hk := ?_) | refine Ze hc (hk := ?_) | refine Zn hc (hk := ?_) | fail) | (first | refine run_callM ([(100000, 100000)]) (hsk) hc (by simp; exact Gives.mk) (by simp; exact Gives.mk) (by simp; exact Gives.mk) (by simp; exact Gives.mk) (by simp; exact Gives.mk) rfl (by simp; exact Gives.mk) (by simp; exact Gives.mk) rfl (by simp) (by simp) (by simp; exact Gives.mk) (by simp; exact Gives.mk) ?_ | fail))
  · exfalso
    rcases h with h | h
    · exact hb.1 h
    · exact hb.2 h
  · rw [if_neg (by
      rintro ⟨h3, h4⟩
      rcases hb with hb | hb
      · omega
      · exact hb (by rw [h4]))]
    (refine run_leaveM [100000] hc (le_end rfl) (by simp; exact Gives.mk) (by simp; exact Gives.mk) (by first | (simp; done) | (simp; omega)) ?_)
    (first | (simp; done) | (simp; omega))
  · rw [if_pos ⟨by omega, UInt8.toNat_inj.1 (by omega)⟩]
    (refine run_leaveM [100000] hc (le_end rfl) (by simp; exact Gives.mk) (by simp; exact Gives.mk) (by first | (simp; done) | (simp; omega)) ?_)
    (first | (simp; done) | (simp; omega))
theorem quo_le (l : Bs) (i : Nat) (hi : i ≤ l.length) : i ≤ (quo l i).2 ∧ (quo l i).2 ≤ l.length ∧ ∀ x, (quo l i).1 = some x → i < (quo l i).2 := by
  have h1 := skip_ge qB l (i + 1)
  unfold quo
  split
  · rename_i h
    have hlt : i < l.length := by rcases h with h | h <;> exact (List.getElem?_eq_some_iff.1 h).1
    have h2 := skip_le qB l (i + 1) (by omega)
    split
    · exact ⟨by simp; omega, by simp; omega, fun x hx => by simp; omega⟩
    · exact ⟨by simp; omega, by simp; omega, fun x hx => by cases hx⟩
  · exact ⟨Nat.le_refl _, hi, fun x hx => by cases hx⟩
def urlW : Bs := [117, 114, 108, 40]
def impW : Bs := [64, 105, 109, 112, 111, 114, 116]
def urlP (l : Bs) (i : Nat) : Option (Nat × Nat) × Nat :=
  if wrd l i urlW = true then
    match quo l (skip isBl l (i + 4)) with
    | (some x, e) => if l[skip isBl l e]? = some 41 then (some x, skip isBl l e + 1) else (none, skip isBl l e)
    | (none, e) => if isQ l e then (none, e)
      else if skip uB l e = e then (none, e)
      else if l[skip isBl l (skip uB l e)]? = some 41 then (some (e, skip uB l e), skip isBl l (skip uB l e) + 1) else (none, skip isBl l (skip uB l e))
  else (none, i)
theorem url_ok (l : Bs) (i : Nat) (hi : i ≤ l.length) (hm : l.length ≤ 200000) :
    FnMem Tryz.prog 35 [.bp 100000 0] (scn l i) (.d (spD (urlP l i).1)) (scn l (urlP l i).2) := by
  refine fnMem Tryz.func35 rfl (by kernel_rfl) Tryz.ntmps35 _ rfl (by simp) fun C hc => ?_
  have hw := word_ok l urlW i hi hm (by simp [urlW])
  unfold urlP
  by_cases h : wrd l i urlW = true
  rotate_left
  · rw [if_neg h]
    rw [Bool.eq_false_iff.2 h, if_neg (by decide)] at hw
    repeat' (first | (first | refine Ya ?_ | refine Yb ?_ | refine Yc ?_ | refine Yd ?_ | refine Ye ?_ | refine Yf ?_ | refine Yg ?_ | refine Yh ?_ | refine Yi ?_ | refine Yj ?_ | refine Yk ?_ | refine Yl ?_ | refine Ym ?_ | refine Yn ?_ | refine Yo ?_ | refine Yp (h := ?_) | refine Yq ?_ | refine Yr ?_ | refine Ys ?_ | refine Zr hc (hk := ?_) | refine Zd hc (hk := ?_) | (refine Zc (ht := fun hb => ?_) (hf := fun hb => ?_) <;> (try simp at hb)) | fail) | (first | refine Zo hc (hk := ?_) | refine Zu hc (hk := ?_) | refine Ze hc (hk := ?_) | refine Zn hc (hk := ?_) | fail) | (first | refine run_callM ([(100000, 100000)]) (hw) hc (by simp; exact Gives.mk) (by simp; exact Gives.mk) (by simp; exact Gives.mk) (by simp; exact Gives.mk) (by simp; exact Gives.mk) rfl (by simp; exact Gives.mk) (by simp; exact Gives.mk) rfl (by simp) (by simp) (by simp; exact Gives.mk) (by simp; exact Gives.mk) ?_ | fail))
    all_goals try contradiction
    (refine run_leaveM [100000] hc (le_end rfl) (by simp; exact Gives.mk) (by simp; exact Gives.mk) (by first | (simp; done) | (simp; omega)) ?_)
    (first | (simp; done) | (simp; omega))
  have hil := wrd_len h
  rw [if_pos h]
  rw [h, if_pos rfl] at hw
  simp only [show urlW.length = 4 from rfl] at hil hw
  have h1 := skip_ge isBl l (i + 4)
  have h2 := skip_le isBl l (i + 4) hil
  have hs1 := some_ok isBl _ blank_ok l (i + 4) hil hm
  generalize skip isBl l (i + 4) = b at h1 h2 hs1 ⊢
  have hq := quoted_ok l b h2 hm
  have hql := quo_le l b h2
  generalize quo l b = q at hq hql ⊢
  obtain ⟨_ | x, e⟩ := q
  · simp only [spD] at hq hql ⊢
    have hiq : isQ l e ↔ e < l.length ∧ (((l[e]?.getD 0).toNat : Int) = 34 ∨ ((l[e]?.getD 0).toNat : Int) = 39) := by
      unfold isQ
      by_cases he : e < l.length
      · rw [List.getElem?_eq_getElem he]
        simp only [Option.some.injEq, Option.getD_some, he, true_and, ← UInt8.toNat_inj]
        constructor
        · rintro (h | h)
          · exact .inl (by rw [h]; rfl)
          · exact .inr (by rw [h]; rfl)
        · rintro (h | h)
          · exact .inl (by show _ = 34; omega)
          · exact .inr (by show _ = 39; omega)
      · simp [he]
    have hs2 := some_ok uB _ urlF_ok l e hql.2.1 hm
    have h3 := skip_ge uB l e
    have h4 := skip_le uB l e hql.2.1
    generalize skip uB l e = t at hs2 h3 h4 ⊢
    have hs3 := some_ok isBl _ blank_ok l t h4 hm
    have h5 := skip_ge isBl l t
    have h6 := skip_le isBl l t h4
    generalize skip isBl l t = c at hs3 h5 h6 ⊢
    have hg := has_ok l [41] c h6 hm
    rw [pre_one] at hg
    repeat' (first | (first | refine Ya ?_ | refine Yb ?_ | refine Yc ?_ | refine Yd ?_ | refine Ye ?_ | refine Yf ?_ | refine Yg ?_ | refine Yh ?_ | refine Yi ?_ | refine Yj ?_ | refine Yk ?_ | refine Yl ?_ | refine Ym ?_ | refine Yn ?_ | refine Yo ?_ | refine Yp (h := ?_) | refine Yq ?_ | refine Yr ?_ | refine Ys ?_ | refine Zr hc (hk := ?_) | refine Zd hc (hk := ?_) | (refine Zc (ht := fun hb => ?_) (hf := fun hb => ?_) <;> (try simp at hb)) | fail) | (first | refine Zw hc (hf := by exact hg) (hk := ?_) | refine Zq hc (hf := by exact hg) (hk := ?_) | refine Zo hc (hk := ?_) | refine Zu hc (hk := ?_) | refine Ze hc (hk := ?_) | refine Zn hc (hk := ?_) | fail) | (first | refine run_callM ([(100000, 100000)]) (hw) hc (by simp; exact Gives.mk) (by simp; exact Gives.mk) (by simp; exact Gives.mk) (by simp; exact Gives.mk) (by simp; exact Gives.mk) rfl (by simp; exact Gives.mk) (by simp; exact Gives.mk) rfl (by simp) (by simp) (by simp; exact Gives.mk) (by simp; exact Gives.mk) ?_ | fail) | (first | refine run_callM ([(100000, 100000)]) (hs1) hc (by simp; exact Gives.mk) (by simp; exact Gives.mk) (by simp; exact Gives.mk) (by simp; exact Gives.mk) (by simp; exact Gives.mk) rfl (by simp; exact Gives.mk) (by simp; exact Gives.mk) rfl (by simp) (by simp) (by simp; exact Gives.mk) (by simp; exact Gives.mk) ?_ | fail) | (first | refine run_callM ([(100000, 100000)]) (hq) hc (by simp; exact Gives.mk) (by simp; exact Gives.mk) (by simp; exact Gives.mk) (by simp; exact Gives.mk) (by simp; exact Gives.mk) rfl (by simp; exact Gives.mk) (by simp; exact Gives.mk) rfl (by simp) (by simp) (by simp; exact Gives.mk) (by simp; exact Gives.mk) ?_ | fail) | (first | refine run_callM ([(100000, 100000)]) (hs2) hc (by simp; exact Gives.mk) (by simp; exact Gives.mk) (by simp; exact Gives.mk) (by simp; exact Gives.mk) (by simp; exact Gives.mk) rfl (by simp; exact Gives.mk) (by simp; exact Gives.mk) rfl (by simp) (by simp) (by simp; exact Gives.mk) (by simp; exact Gives.mk) ?_ | fail) | (first | refine run_callM ([(100000, 100000)]) (hs3) hc (by simp; exact Gives.mk) (by simp; exact Gives.mk) (by simp; exact Gives.mk) (by simp; exact Gives.mk) (by simp; exact Gives.mk) rfl (by simp; exact Gives.mk) (by simp; exact Gives.mk) rfl (by simp) (by simp) (by simp; exact Gives.mk) (by simp; exact Gives.mk) ?_ | fail))
    all_goals try contradiction
    · rw [if_pos (hiq.2 hb)]
      (refine run_leaveM [100000] hc (le_end rfl) (by simp; exact Gives.mk) (by simp; exact Gives.mk) (by first | (simp; done) | (simp; omega)) ?_)
      (first | (simp; done) | (simp; omega))
    all_goals
      have hnq : ¬ isQ l e := fun h => by
        obtain ⟨q1, q2⟩ := hiq.1 h
        have q3 := (show e < l.length → ¬ ((l[e]?.getD 0).toNat : Int) = 34 ∧ ¬ ((l[e]?.getD 0).toNat : Int) = 39 by assumption) q1
        rcases q2 with q2 | q2
        · exact q3.1 q2
        · exact q3.2 q2
    · rw [if_neg hnq, if_pos (by omega)]
      (refine run_leaveM [100000] hc (le_end rfl) (by simp; exact Gives.mk) (by simp; exact Gives.mk) (by first | (simp; done) | (simp; omega)) ?_)
      (first | (simp; done) | (simp; omega))
    · rw [if_neg hnq, if_neg (by omega), if_neg hb]
      (refine run_leaveM [100000] hc (le_end rfl) (by simp; exact Gives.mk) (by simp; exact Gives.mk) (by first | (simp; done) | (simp; omega)) ?_)
      (first | (simp; done) | (simp; omega))
    · rw [if_neg hnq, if_neg (by omega), if_pos hb]
      have hcl := (List.getElem?_eq_some_iff.1 hb).1
      (refine run_leaveM [100000] hc (le_end rfl) (by simp; exact Gives.mk) (by simp; exact Gives.mk) (by first | (simp; done) | (simp; omega)) ?_)
      (first | (simp; done) | (simp; omega))
  · simp only [spD] at hq hql ⊢
    have hs3 := some_ok isBl _ blank_ok l e hql.2.1 hm
    have h5 := skip_ge isBl l e
    have h6 := skip_le isBl l e hql.2.1
    generalize skip isBl l e = c at hs3 h5 h6 ⊢
    have hg := has_ok l [41] c h6 hm
    rw [pre_one] at hg
    repeat' (first | (first | refine Ya ?_ | refine Yb ?_ | refine Yc ?_ | refine Yd ?_ | refine Ye ?_ | refine Yf ?_ | refine Yg ?_ | refine Yh ?_ | refine Yi ?_ | refine Yj ?_ | refine Yk ?_ | refine Yl ?_ | refine Ym ?_ | refine Yn ?_ | refine Yo ?_ | refine Yp (h := ?_) | refine Yq ?_ | refine Yr ?_ | refine Ys ?_ | refine Zr hc (hk := ?_) | refine Zd hc (hk := ?_) | (refine Zc (ht := fun hb => ?_) (hf := fun hb => ?_) <;> (try simp at hb)) | fail) | (first | refine Zw hc (hf := by exact hg) (hk := ?_) | refine Zq hc (hf := by exact hg) (hk := ?_) | refine Zo hc (hk := ?_) | refine Zu hc (hk := ?_) | refine Ze hc (hk := ?_) | refine Zn hc (hk := ?_) | fail) | (first | refine run_callM ([(100000, 100000)]) (hw) hc (by simp; exact Gives.mk) (by simp; exact Gives.mk) (by simp; exact Gives.mk) (by simp; exact Gives.mk) (by simp; exact Gives.mk) rfl (by simp; exact Gives.mk) (by simp; exact Gives.mk) rfl (by simp) (by simp) (by simp; exact Gives.mk) (by simp; exact Gives.mk) ?_ | fail) | (first | refine run_callM ([(100000, 100000)]) (hs1) hc (by simp; exact Gives.mk) (by simp; exact Gives.mk) (by simp; exact Gives.mk) (by simp; exact Gives.mk) (by simp; exact Gives.mk) rfl (by simp; exact Gives.mk) (by simp; exact Gives.mk) rfl (by simp) (by simp) (by simp; exact Gives.mk) (by simp; exact Gives.mk) ?_ | fail) | (first | refine run_callM ([(100000, 100000)]) (hq) hc (by simp; exact Gives.mk) (by simp; exact Gives.mk) (by simp; exact Gives.mk) (by simp; exact Gives.mk) (by simp; exact Gives.mk) rfl (by simp; exact Gives.mk) (by simp; exact Gives.mk) rfl (by simp) (by simp) (by simp; exact Gives.mk) (by simp; exact Gives.mk) ?_ | fail) | (first | refine run_callM ([(100000, 100000)]) (hs3) hc (by simp; exact Gives.mk) (by simp; exact Gives.mk) (by simp; exact Gives.mk) (by simp; exact Gives.mk) (by simp; exact Gives.mk) rfl (by simp; exact Gives.mk) (by simp; exact Gives.mk) rfl (by simp) (by simp) (by simp; exact Gives.mk) (by simp; exact Gives.mk) ?_ | fail))
    all_goals try contradiction
    · rw [if_neg hb]
      (refine run_leaveM [100000] hc (le_end rfl) (by simp; exact Gives.mk) (by simp; exact Gives.mk) (by first | (simp; done) | (simp; omega)) ?_)
      (first | (simp; done) | (simp; omega))
    · rw [if_pos hb]
      have hcl := (List.getElem?_eq_some_iff.1 hb).1
      (refine run_leaveM [100000] hc (le_end rfl) (by simp; exact Gives.mk) (by simp; exact Gives.mk) (by first | (simp; done) | (simp; omega)) ?_)
      (first | (simp; done) | (simp; omega))
theorem urlP_le (l : Bs) (i : Nat) (hi : i ≤ l.length) : (urlP l i).2 ≤ l.length ∧ ∀ x, (urlP l i).1 = some x → i < (urlP l i).2 := by
  unfold urlP
  by_cases h : wrd l i urlW = true
  rotate_left
  · rw [if_neg h]; exact ⟨hi, fun x hx => by cases hx⟩
  rw [if_pos h]
  have hil := wrd_len h
  simp only [show urlW.length = 4 from rfl] at hil
  have h1 := skip_ge isBl l (i + 4)
  have h2 := skip_le isBl l (i + 4) hil
  have hq := quo_le l (skip isBl l (i + 4)) h2
  generalize quo l (skip isBl l (i + 4)) = q at hq ⊢
  obtain ⟨_ | x, e⟩ := q
  · simp only at hq ⊢
    have h3 := skip_ge uB l e
    have h4 := skip_le uB l e hq.2.1
    have h5 := skip_ge isBl l (skip uB l e)
    have h6 := skip_le isBl l (skip uB l e) h4
    split
    · exact ⟨by simp; omega, fun x hx => by cases hx⟩
    · split
      · exact ⟨by simp; omega, fun x hx => by cases hx⟩
      · split
        · rename_i hb
          have hcl := (List.getElem?_eq_some_iff.1 hb).1
          exact ⟨by simp; omega, fun x hx => by simp; omega⟩
        · exact ⟨by simp; omega, fun x hx => by cases hx⟩
  · simp only at hq ⊢
    have h5 := skip_ge isBl l e
    have h6 := skip_le isBl l e hq.2.1
    split
    · rename_i hb
      have hcl := (List.getElem?_eq_some_iff.1 hb).1
      exact ⟨by simp; omega, fun x hx => by simp; omega⟩
    · exact ⟨by simp; omega, fun x hx => by cases hx⟩
def impP (l : Bs) (i : Nat) : Option (Nat × Nat) × Nat :=
  if wrd l i impW = true then (if skip isBl l (i + 7) = i + 7 then (none, i + 7) else quo l (skip isBl l (i + 7))) else (none, i)
theorem impP_le (l : Bs) (i : Nat) (hi : i ≤ l.length) : (impP l i).2 ≤ l.length ∧ ∀ x, (impP l i).1 = some x → i < (impP l i).2 := by
  unfold impP
  by_cases h : wrd l i impW = true
  rotate_left
  · rw [if_neg h]; exact ⟨hi, fun x hx => by cases hx⟩
  rw [if_pos h]
  have hil := wrd_len h
  simp only [show impW.length = 7 from rfl] at hil
  have h1 := skip_ge isBl l (i + 7)
  have h2 := skip_le isBl l (i + 7) hil
  have hq := quo_le l (skip isBl l (i + 7)) h2
  split
  · exact ⟨hil, fun x hx => by cases hx⟩
  · exact ⟨hq.2.1, fun x hx => by omega⟩
theorem imported_ok (l : Bs) (i : Nat) (hi : i ≤ l.length) (hm : l.length ≤ 200000) :
    FnMem Tryz.prog 36 [.bp 100000 0] (scn l i) (.d (spD (impP l i).1)) (scn l (impP l i).2) := by
  refine fnMem Tryz.func36 rfl (by kernel_rfl) Tryz.ntmps36 _ rfl (by simp) fun C hc => ?_
  have hw := word_ok l impW i hi hm (by simp [impW])
  unfold impP
  by_cases h : wrd l i impW = true
  rotate_left
  · rw [if_neg h]
    rw [Bool.eq_false_iff.2 h, if_neg (by decide)] at hw
    repeat' (first | (first | refine Ya ?_ | refine Yb ?_ | refine Yc ?_ | refine Yd ?_ | refine Ye ?_ | refine Yf ?_ | refine Yg ?_ | refine Yh ?_ | refine Yi ?_ | refine Yj ?_ | refine Yk ?_ | refine Yl ?_ | refine Ym ?_ | refine Yn ?_ | refine Yo ?_ | refine Yp (h := ?_) | refine Yq ?_ | refine Yr ?_ | refine Ys ?_ | refine Zr hc (hk := ?_) | refine Zd hc (hk := ?_) | (refine Zc (ht := fun hb => ?_) (hf := fun hb => ?_) <;> (try simp at hb)) | fail) | (first | refine Zo hc (hk := ?_) | refine Zu hc (hk := ?_) | refine Ze hc (hk := ?_) | refine Zn hc (hk := ?_) | fail) | (first | refine run_callM ([(100000, 100000)]) (hw) hc (by simp; exact Gives.mk) (by simp; exact Gives.mk) (by simp; exact Gives.mk) (by simp; exact Gives.mk) (by simp; exact Gives.mk) rfl (by simp; exact Gives.mk) (by simp; exact Gives.mk) rfl (by simp) (by simp) (by simp; exact Gives.mk) (by simp; exact Gives.mk) ?_ | fail) | (first | refine run_skip hc (by simp; exact Gives.mk) (by simp) ?_ | fail))
    all_goals try contradiction
    (refine run_leaveM [100000] hc (le_end rfl) (by simp; exact Gives.mk) (by simp; exact Gives.mk) (by first | (simp; done) | (simp; omega)) ?_)
    (first | (simp; done) | (simp; omega))
  have hil := wrd_len h
  rw [if_pos h]
  rw [h, if_pos rfl] at hw
  simp only [show impW.length = 7 from rfl] at hil hw
  have h1 := skip_ge isBl l (i + 7)
  have h2 := skip_le isBl l (i + 7) hil
  have hs1 := some_ok isBl _ blank_ok l (i + 7) hil hm
  generalize skip isBl l (i + 7) = b at h1 h2 hs1 ⊢
  have hq := quoted_ok l b h2 hm
  generalize quo l b = q at hq ⊢
  obtain ⟨_ | x, e⟩ := q
  · simp only [spD] at hq ⊢
    repeat' (first | (first | refine Ya ?_ | refine Yb ?_ | refine Yc ?_ | refine Yd ?_ | refine Ye ?_ | refine Yf ?_ | refine Yg ?_ | refine Yh ?_ | refine Yi ?_ | refine Yj ?_ | refine Yk ?_ | refine Yl ?_ | refine Ym ?_ | refine Yn ?_ | refine Yo ?_ | refine Yp (h := ?_) | refine Yq ?_ | refine Yr ?_ | refine Ys ?_ | refine Zr hc (hk := ?_) | refine Zd hc (hk := ?_) | (refine Zc (ht := fun hb => ?_) (hf := fun hb => ?_) <;> (try simp at hb)) | fail) | (first | refine Zo hc (hk := ?_) | refine Zu hc (hk := ?_) | refine Ze hc (hk := ?_) | refine Zn hc (hk := ?_) | fail) | (first | refine run_callM ([(100000, 100000)]) (hw) hc (by simp; exact Gives.mk) (by simp; exact Gives.mk) (by simp; exact Gives.mk) (by simp; exact Gives.mk) (by simp; exact Gives.mk) rfl (by simp; exact Gives.mk) (by simp; exact Gives.mk) rfl (by simp) (by simp) (by simp; exact Gives.mk) (by simp; exact Gives.mk) ?_ | fail) | (first | refine run_callM ([(100000, 100000)]) (hs1) hc (by simp; exact Gives.mk) (by simp; exact Gives.mk) (by simp; exact Gives.mk) (by simp; exact Gives.mk) (by simp; exact Gives.mk) rfl (by simp; exact Gives.mk) (by simp; exact Gives.mk) rfl (by simp) (by simp) (by simp; exact Gives.mk) (by simp; exact Gives.mk) ?_ | fail) | (first | refine run_callM ([(100000, 100000)]) (hq) hc (by simp; exact Gives.mk) (by simp; exact Gives.mk) (by simp; exact Gives.mk) (by simp; exact Gives.mk) (by simp; exact Gives.mk) rfl (by simp; exact Gives.mk) (by simp; exact Gives.mk) rfl (by simp) (by simp) (by simp; exact Gives.mk) (by simp; exact Gives.mk) ?_ | fail))
    · rw [if_pos (by omega)]
      (refine run_leaveM [100000] hc (le_end rfl) (by simp; exact Gives.mk) (by simp; exact Gives.mk) (by first | (simp; done) | (simp; omega)) ?_)
      (first | (simp; done) | (simp; omega))
    · rw [if_neg (by omega)]
      (refine run_leaveM [100000] hc (le_end rfl) (by simp; exact Gives.mk) (by simp; exact Gives.mk) (by first | (simp; done) | (simp; omega)) ?_)
      (first | (simp; done) | (simp; omega))
  · simp only [spD] at hq ⊢
    repeat' (first | (first | refine Ya ?_ | refine Yb ?_ | refine Yc ?_ | refine Yd ?_ | refine Ye ?_ | refine Yf ?_ | refine Yg ?_ | refine Yh ?_ | refine Yi ?_ | refine Yj ?_ | refine Yk ?_ | refine Yl ?_ | refine Ym ?_ | refine Yn ?_ | refine Yo ?_ | refine Yp (h := ?_) | refine Yq ?_ | refine Yr ?_ | refine Ys ?_ | refine Zr hc (hk := ?_) | refine Zd hc (hk := ?_) | (refine Zc (ht := fun hb => ?_) (hf := fun hb => ?_) <;> (try simp at hb)) | fail) | (first | refine Zo hc (hk := ?_) | refine Zu hc (hk := ?_) | refine Ze hc (hk := ?_) | refine Zn hc (hk := ?_) | fail) | (first | refine run_callM ([(100000, 100000)]) (hw) hc (by simp; exact Gives.mk) (by simp; exact Gives.mk) (by simp; exact Gives.mk) (by simp; exact Gives.mk) (by simp; exact Gives.mk) rfl (by simp; exact Gives.mk) (by simp; exact Gives.mk) rfl (by simp) (by simp) (by simp; exact Gives.mk) (by simp; exact Gives.mk) ?_ | fail) | (first | refine run_callM ([(100000, 100000)]) (hs1) hc (by simp; exact Gives.mk) (by simp; exact Gives.mk) (by simp; exact Gives.mk) (by simp; exact Gives.mk) (by simp; exact Gives.mk) rfl (by simp; exact Gives.mk) (by simp; exact Gives.mk) rfl (by simp) (by simp) (by simp; exact Gives.mk) (by simp; exact Gives.mk) ?_ | fail) | (first | refine run_callM ([(100000, 100000)]) (hq) hc (by simp; exact Gives.mk) (by simp; exact Gives.mk) (by simp; exact Gives.mk) (by simp; exact Gives.mk) (by simp; exact Gives.mk) rfl (by simp; exact Gives.mk) (by simp; exact Gives.mk) rfl (by simp) (by simp) (by simp; exact Gives.mk) (by simp; exact Gives.mk) ?_ | fail))
    · rw [if_pos (by omega)]
      (refine run_leaveM [100000] hc (le_end rfl) (by simp; exact Gives.mk) (by simp; exact Gives.mk) (by first | (simp; done) | (simp; omega)) ?_)
      (first | (simp; done) | (simp; omega))
    · rw [if_neg (by omega)]
      (refine run_leaveM [100000] hc (le_end rfl) (by simp; exact Gives.mk) (by simp; exact Gives.mk) (by first | (simp; done) | (simp; omega)) ?_)
      (first | (simp; done) | (simp; omega))
end Go.Proofs.YtjbabjfmcganpaaGreatDoor
/-
  PAGE: addresses in styles, and those of the reference. (WITH run_drawN.)
-/
set_option linter.unusedSimpArgs false
set_option linter.unusedVariables false
namespace Go.Proofs.YtjbabjfmcganpaaGreatDoor
open Go.Lw
set_option maxRecDepth 100000
set_option maxHeartbeats 1000000

def sty (l : Bs) (i : Nat) : Option ((Nat × Nat) × Nat) := match (urlP l i).1 with
  | some x => some (x, (urlP l i).2)
  | none => match (impP l i).1 with
    | some x => some (x, (impP l i).2)
    | none => none
theorem sty_le {l : Bs} {i : Nat} (hi : i ≤ l.length) {x : (Nat × Nat) × Nat} (h : sty l i = some x) : i < x.2 ∧ x.2 ≤ l.length := by
  unfold sty at h
  have h1 := urlP_le l i hi
  have h2 := impP_le l i hi
  split at h
  · rename_i y hy
    cases h
    exact ⟨h1.2 y hy, h1.1⟩
  · split at h
    · rename_i y hy
      cases h
      exact ⟨h2.2 y hy, h2.1⟩
    · cases h
def inS (l : Bs) (i : Nat) : List (Nat × Nat) :=
  if i < l.length then match sty l i with
    | some x => if i < x.2 then x.1 :: inS l x.2 else []
    | none => inS l (i + 1)
  else []
termination_by l.length - i
theorem inS_some {l : Bs} {i : Nat} (hi : i < l.length) {x : (Nat × Nat) × Nat} (h : sty l i = some x) : inS l i = x.1 :: inS l x.2 := by
  rw [inS, if_pos hi, h]
  simp only
  rw [if_pos (sty_le (by omega) h).1]
theorem inS_none {l : Bs} {i : Nat} (hi : i < l.length) (h : sty l i = none) : inS l i = inS l (i + 1) := by
  rw [inS, if_pos hi, h]
theorem inS_end {l : Bs} {i : Nat} (hi : ¬ i < l.length) : inS l i = [] := by rw [inS, if_neg hi]
theorem inStyle_ok (l : Bs) (hm : l.length ≤ 200000) : FnOk Tryz.prog 16 [str l] (spSl (inS l 0)) := by
  refine fnOk Tryz.func16 rfl (by kernel_rfl) Tryz.ntmps16 _ rfl (by simp) fun C hc => ?_
  repeat' (first | refine Ya ?_ | refine Yb ?_ | refine Yc ?_ | refine Yd ?_ | refine Ye ?_ | refine Yf ?_ | refine Yg ?_ | refine Yh ?_ | refine Yi ?_ | refine Yj ?_ | refine Yk ?_ | refine Yl ?_ | refine Ym ?_ | refine Yn ?_ | refine Yo ?_ | refine Yp (h := ?_) | refine Yq ?_ | refine Yr ?_ | refine Ys ?_ | refine Zr hc (hk := ?_) | refine Zd hc (hk := ?_) | (refine Zc (ht := fun hb => ?_) (hf := fun hb => ?_) <;> (try simp at hb)) | fail)
  refine ewp_loop (fun x : Nat × List (Nat × Nat) => ⟨[(0, .d (str l)), (3, .bp 10 0), (4, .os 40000 x.2.length)], [(10, .box 86 [.d (str l), .d (int x.1)]), (40000, .own 31 2 (true, zS) (x.2.map encS))]⟩) (fun x => x.1 ≤ l.length ∧ x.2.length ≤ x.1 ∧ inS l 0 = x.2 ++ inS l x.1) (fun x => l.length - x.1) (0, []) (by simp) (run_keepB [(4, none, 40000, 31, zS)] [0, 3, 4] [10, 40000] (by simp; exact Gives.mk) (by simp; exact Gives.mk) (by simp; exact Gives.mk)) ?_
  rintro ⟨i, m⟩ ⟨h1, h2, h3⟩
  simp only at h1 h2 h3 ⊢
  by_cases hil : i < l.length
  rotate_left
  · rw [inS_end hil, List.append_nil] at h3
    rw [h3]
    repeat' (first | (first | refine Ya ?_ | refine Yb ?_ | refine Yc ?_ | refine Yd ?_ | refine Ye ?_ | refine Yf ?_ | refine Yg ?_ | refine Yh ?_ | refine Yi ?_ | refine Yj ?_ | refine Yk ?_ | refine Yl ?_ | refine Ym ?_ | refine Yn ?_ | refine Yo ?_ | refine Yp (h := ?_) | refine Yq ?_ | refine Yr ?_ | refine Ys ?_ | refine Zr hc (hk := ?_) | refine Zd hc (hk := ?_) | (refine Zc (ht := fun hb => ?_) (hf := fun hb => ?_) <;> (try simp at hb)) | fail) | (first | refine Zo hc (hk := ?_) | refine Zu hc (hk := ?_) | refine Ze hc (hk := ?_) | refine Zn hc (hk := ?_) | fail))
    · exfalso; omega
    · (refine Zl hc (hr := ?_))
      simp
  have hu := url_ok l i h1 hm
  have hp := imported_ok l i h1 hm
  have hul := urlP_le l i h1
  have hpl := impP_le l i h1
  have hsm := fun x h => inS_some (x := x) hil h
  have hno := fun h => inS_none hil h
  have hsl := fun x h => sty_le (x := x) h1 h
  unfold sty at hsm hno hsl
  generalize urlP l i = u at hu hul hsm hno hsl
  generalize impP l i = v at hp hpl hsm hno hsl
  obtain ⟨_ | x, q⟩ := u
  · obtain ⟨_ | x, r⟩ := v
    · simp only [spD] at hu hp hno
      repeat' (first | (first | refine Ya ?_ | refine Yb ?_ | refine Yc ?_ | refine Yd ?_ | refine Ye ?_ | refine Yf ?_ | refine Yg ?_ | refine Yh ?_ | refine Yi ?_ | refine Yj ?_ | refine Yk ?_ | refine Yl ?_ | refine Ym ?_ | refine Yn ?_ | refine Yo ?_ | refine Yp (h := ?_) | refine Yq ?_ | refine Yr ?_ | refine Ys ?_ | refine Zr hc (hk := ?_) | refine Zd hc (hk := ?_) | (refine Zc (ht := fun hb => ?_) (hf := fun hb => ?_) <;> (try simp at hb)) | fail) | (first | refine Zo hc (hk := ?_) | refine Zu hc (hk := ?_) | refine Ze hc (hk := ?_) | refine Zn hc (hk := ?_) | fail) | (first | refine run_callM ([(100000, 10)]) (hu) hc (by simp; exact Gives.mk) (by simp; exact Gives.mk) (by simp; exact Gives.mk) (by simp; exact Gives.mk) (by simp; exact Gives.mk) rfl (by simp; exact Gives.mk) (by simp; exact Gives.mk) rfl (by simp) (by simp) (by simp; exact Gives.mk) (by simp; exact Gives.mk) ?_ | fail) | (first | refine run_callM ([(100000, 10)]) (hp) hc (by simp; exact Gives.mk) (by simp; exact Gives.mk) (by simp; exact Gives.mk) (by simp; exact Gives.mk) (by simp; exact Gives.mk) rfl (by simp; exact Gives.mk) (by simp; exact Gives.mk) rfl (by simp) (by simp) (by simp; exact Gives.mk) (by simp; exact Gives.mk) ?_ | fail))
      all_goals try contradiction
      · exact ⟨(i + 1, m), ⟨by simp; omega, by simp; omega, by rw [h3, hno trivial]⟩, by simp; omega, run_back [0, 3, 4] [10, 40000] (by simp; exact Gives.mk) (by simp; exact Gives.mk) (by simp)⟩
      · exfalso; omega
    · simp only [spD] at hu hp hsm hsl
      have h4 := hsm _ rfl
      have h5 := hsl _ rfl
      simp only at h4 h5
      repeat' (first | (first | refine Ya ?_ | refine Yb ?_ | refine Yc ?_ | refine Yd ?_ | refine Ye ?_ | refine Yf ?_ | refine Yg ?_ | refine Yh ?_ | refine Yi ?_ | refine Yj ?_ | refine Yk ?_ | refine Yl ?_ | refine Ym ?_ | refine Yn ?_ | refine Yo ?_ | refine Yp (h := ?_) | refine Yq ?_ | refine Yr ?_ | refine Ys ?_ | refine Zr hc (hk := ?_) | refine Zd hc (hk := ?_) | (refine Zc (ht := fun hb => ?_) (hf := fun hb => ?_) <;> (try simp at hb)) | fail) | (first | refine Zo hc (hk := ?_) | refine Zu hc (hk := ?_) | refine Ze hc (hk := ?_) | refine Zn hc (hk := ?_) | fail) | (first | refine run_callM ([(100000, 10)]) (hu) hc (by simp; exact Gives.mk) (by simp; exact Gives.mk) (by simp; exact Gives.mk) (by simp; exact Gives.mk) (by simp; exact Gives.mk) rfl (by simp; exact Gives.mk) (by simp; exact Gives.mk) rfl (by simp) (by simp) (by simp; exact Gives.mk) (by simp; exact Gives.mk) ?_ | fail) | (first | refine run_callM ([(100000, 10)]) (hp) hc (by simp; exact Gives.mk) (by simp; exact Gives.mk) (by simp; exact Gives.mk) (by simp; exact Gives.mk) (by simp; exact Gives.mk) rfl (by simp; exact Gives.mk) (by simp; exact Gives.mk) rfl (by simp) (by simp) (by simp; exact Gives.mk) (by simp; exact Gives.mk) ?_ | fail))
      all_goals try contradiction
      · exact ⟨(r, m ++ [x]), ⟨by simp; omega, by simp; omega, by rw [h3, h4]; simp⟩, by simp; omega, run_back [0, 3, 4] [10, 40000] (by simp; exact Gives.mk) (by simp; exact Gives.mk) (by simp)⟩
      · exfalso; omega
  · simp only [spD] at hu hsm hsl
    have h4 := hsm _ rfl
    have h5 := hsl _ rfl
    simp only at h4 h5
    repeat' (first | (first | refine Ya ?_ | refine Yb ?_ | refine Yc ?_ | refine Yd ?_ | refine Ye ?_ | refine Yf ?_ | refine Yg ?_ | refine Yh ?_ | refine Yi ?_ | refine Yj ?_ | refine Yk ?_ | refine Yl ?_ | refine Ym ?_ | refine Yn ?_ | refine Yo ?_ | refine Yp (h := ?_) | refine Yq ?_ | refine Yr ?_ | refine Ys ?_ | refine Zr hc (hk := ?_) | refine Zd hc (hk := ?_) | (refine Zc (ht := fun hb => ?_) (hf := fun hb => ?_) <;> (try simp at hb)) | fail) | (first | refine Zo hc (hk := ?_) | refine Zu hc (hk := ?_) | refine Ze hc (hk := ?_) | refine Zn hc (hk := ?_) | fail) | (first | refine run_callM ([(100000, 10)]) (hu) hc (by simp; exact Gives.mk) (by simp; exact Gives.mk) (by simp; exact Gives.mk) (by simp; exact Gives.mk) (by simp; exact Gives.mk) rfl (by simp; exact Gives.mk) (by simp; exact Gives.mk) rfl (by simp) (by simp) (by simp; exact Gives.mk) (by simp; exact Gives.mk) ?_ | fail))
    all_goals try contradiction
    · exact ⟨(q, m ++ [x]), ⟨by simp; omega, by simp; omega, by rw [h3, h4]; simp⟩, by simp; omega, run_back [0, 3, 4] [10, 40000] (by simp; exact Gives.mk) (by simp; exact Gives.mk) (by simp)⟩
    · exfalso; omega
end Go.Proofs.YtjbabjfmcganpaaGreatDoor
