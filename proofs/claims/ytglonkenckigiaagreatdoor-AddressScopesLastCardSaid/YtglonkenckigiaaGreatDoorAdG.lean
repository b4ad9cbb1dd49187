/-
  ADDRESS: the reader's host and port. (WITH run_drawN.)
-/
import Derived.Test.YtglonkenckigiaaGreatDoorAdD
set_option linter.unusedSimpArgs false
set_option linter.unusedVariables false
namespace Go.Proofs.YtglonkenckigiaaGreatDoor
open Go.Lw Go.RowKit
set_option maxRecDepth 100000
set_option maxHeartbeats 1000000

theorem tw_take (p : UInt8 → Bool) (l : Bs) : l.take (l.takeWhile p).length = l.takeWhile p := (List.prefix_iff_eq_take.1 (List.takeWhile_prefix p)).symm
theorem skip_cut (p : UInt8 → Bool) (t : Bs) (i : Nat) : (t.take (skip p t i)).drop i = (t.drop i).takeWhile p := by
  unfold skip
  rw [cut_eq, tw_take]
theorem endP_iff (t : Bs) (k : Nat) (hk : k ≤ t.length) : endP (t.drop k) ↔ (k = t.length ∨ 0 ≤ Lib.indexByte [47, 63, 35] (t[k]?.getD 0)) := by
  rcases Nat.lt_or_ge k t.length with h | h
  · rw [drop_get t k h]
    have hh := has_iff [47, 63, 35] (t[k]?.getD 0)
    constructor
    · rintro (e | ⟨c, r, e, hc⟩)
      · cases e
      · cases e; exact .inr (hh.1 hc)
    · rintro (e | e)
      · omega
      · exact .inr ⟨_, _, rfl, hh.2 e⟩
  · rw [List.drop_of_length_le h]
    exact ⟨fun _ => .inl (by omega), fun _ => .inl rfl⟩
theorem end_bool (t : Bs) (k : Nat) (x : Int) (hx : x = k) (hk : k ≤ t.length) : (x == (t.length : Int) || decide (0 ≤ Lib.indexByte [47, 63, 35] (t[k]?.getD 0))) = decide (endP (t.drop k)) := by
  rw [Bool.eq_iff_iff, decide_eq_true_iff, endP_iff t k hk]
  subst hx
  simp
  omega
theorem place_ok (t : Bs) (i : Nat) (a : Adr) (hi : i ≤ t.length) (hm : t.length ≤ 4611686018427387904) :
    FnMem Tryz.prog 84 [.bp 100000 0] (rdr t i a) (.d (tru (plR t i a).1)) (rdr t (((plR t i a).2.1 : Nat) : Int) (plR t i a).2.2) := by
  refine fnMem Tryz.func84 rfl (by kernel_rfl) Tryz.ntmps84 _ rfl (by simp) fun C hc => ?_
  have hE := hostEnd_ok (t.drop i) (by simp; omega)
  have hcut := skip_cut hostB t i
  have hsl := skip_le hostB t i hi
  have hsk : i + ((t.drop i).takeWhile hostB).length = skip hostB t i := rfl
  have hH := isHost_ok ((t.drop i).takeWhile hostB) (by omega)
  unfold plR
  generalize hn : ((t.drop i).takeWhile hostB).length = n at hE hsk
  rw [← hsk] at hcut hsl ⊢
  have eT : ((i : Int) + (n : Int)).toNat = i + n := by omega
  repeat' (first | (first | refine Ya ?_ | refine Yb ?_ | refine Yc ?_ | refine Yd ?_ | refine Ye ?_ | refine Yf ?_ | refine Yg ?_ | refine Yh ?_ | refine Yi ?_ | refine Yj ?_ | refine Yk ?_ | refine Yl ?_ | refine Ym ?_ | refine Yn ?_ | refine Yo ?_ | refine Yp (h := ?_) | refine Yq ?_ | refine Yr ?_ | refine Ys ?_ | refine Zr hc (hk := ?_) | refine Zd hc (hk := ?_) | (refine Zc (ht := fun hb => ?_) (hf := fun hb => ?_) <;> (try simp at hb)) | fail) | (first | refine Zw hc (hf := by exact hE) (hk := ?_) | refine Zq hc (hf := by exact hE) (hk := ?_) | refine Zo hc (hk := ?_) | refine Zu hc (hk := ?_) | refine Ze hc (hk := ?_) | refine Zn hc (hk := ?_) | fail))
  (refine run_drawT 16 hc (by kernel_rfl) (by kernel_rfl) ?_; try simp only [List.take_succ_cons, List.take_zero, List.drop_succ_cons, List.drop_zero])
  repeat' (first | (first | refine Ya ?_ | refine Yb ?_ | refine Yc ?_ | refine Yd ?_ | refine Ye ?_ | refine Yf ?_ | refine Yg ?_ | refine Yh ?_ | refine Yi ?_ | refine Yj ?_ | refine Yk ?_ | refine Yl ?_ | refine Ym ?_ | refine Yn ?_ | refine Yo ?_ | refine Yp (h := ?_) | refine Yq ?_ | refine Yr ?_ | refine Ys ?_ | refine Zr hc (hk := ?_) | refine Zd hc (hk := ?_) | (refine Zc (ht := fun hb => ?_) (hf := fun hb => ?_) <;> (try simp at hb)) | fail) | (first | refine Zo hc (hk := ?_) | refine Zu hc (hk := ?_) | refine Ze hc (hk := ?_) | refine Zn hc (hk := ?_) | fail))
  rw [hcut]
  generalize hh : (t.drop i).takeWhile hostB = h at hH hn hcut
  cases hI : isHostB h with
  | false =>
    rw [hI] at hH
    rw [if_neg (by decide)]
    repeat' (first | (first | refine Ya ?_ | refine Yb ?_ | refine Yc ?_ | refine Yd ?_ | refine Ye ?_ | refine Yf ?_ | refine Yg ?_ | refine Yh ?_ | refine Yi ?_ | refine Yj ?_ | refine Yk ?_ | refine Yl ?_ | refine Ym ?_ | refine Yn ?_ | refine Yo ?_ | refine Yp (h := ?_) | refine Yq ?_ | refine Yr ?_ | refine Ys ?_ | refine Zr hc (hk := ?_) | refine Zd hc (hk := ?_) | (refine Zc (ht := fun hb => ?_) (hf := fun hb => ?_) <;> (try simp at hb)) | fail) | (first | refine Zw hc (hf := by exact hH) (hk := ?_) | refine Zq hc (hf := by exact hH) (hk := ?_) | refine Zo hc (hk := ?_) | refine Zu hc (hk := ?_) | refine Ze hc (hk := ?_) | refine Zn hc (hk := ?_) | fail))
    all_goals try contradiction
    (refine run_leaveM [100000] hc (le_end rfl) (by simp; exact Gives.mk) (by simp; exact Gives.mk) (by first | (simp; done) | (simp; omega)) ?_)
    (first | (simp; done) | (simp; omega))
  | true =>
    rw [hI] at hH
    rw [if_pos rfl]
    have hq := hasPrefix_ok (t.drop (i + n)) [58]
    by_cases p1 : [58] <+: t.drop (i + n)
    · rw [List.isPrefixOf_iff_prefix.2 p1] at hq
      rw [if_pos p1]
      have hlt := pre_lt p1
      repeat' (first | (first | refine Ya ?_ | refine Yb ?_ | refine Yc ?_ | refine Yd ?_ | refine Ye ?_ | refine Yf ?_ | refine Yg ?_ | refine Yh ?_ | refine Yi ?_ | refine Yj ?_ | refine Yk ?_ | refine Yl ?_ | refine Ym ?_ | refine Yn ?_ | refine Yo ?_ | refine Yp (h := ?_) | refine Yq ?_ | refine Yr ?_ | refine Ys ?_ | refine Zr hc (hk := ?_) | refine Zd hc (hk := ?_) | (refine Zc (ht := fun hb => ?_) (hf := fun hb => ?_) <;> (try simp at hb)) | fail) | (first | refine Zw hc (hf := by first | exact hH | exact hq) (hk := ?_) | refine Zq hc (hf := by first | exact hH | exact hq) (hk := ?_) | refine Zo hc (hk := ?_) | refine Zu hc (hk := ?_) | refine Ze hc (hk := ?_) | refine Zn hc (hk := ?_) | fail))
      all_goals try contradiction
      have eT2 : ((i : Int) + (n : Int) + 1).toNat = i + n + 1 := by omega
      refine ewp_loop (fun j : Nat => ⟨[(0, .bp 100000 0), (4, .d (int j))], rdr t ((i : Int) + n + 1) { a with host := h }⟩) (fun j => i + n + 1 ≤ j ∧ j ≤ t.length ∧ skip isDig t (i + n + 1) = skip isDig t j) (fun j => t.length - j) (i + n + 1) (by simp; omega) (run_keep [0, 4] [100000] (by simp; exact Gives.mk) (by simp; exact Gives.mk)) ?_
      rintro j ⟨h1, h2, h3⟩
      have hs := fun h => skip_step isDig t j h
      have hend := fun h => skip_end isDig t j h
      have hdg := adDigit_ok (t[j]?.getD 0)
      repeat' (first | (first | refine Ya ?_ | refine Yb ?_ | refine Yc ?_ | refine Yd ?_ | refine Ye ?_ | refine Yf ?_ | refine Yg ?_ | refine Yh ?_ | refine Yi ?_ | refine Yj ?_ | refine Yk ?_ | refine Yl ?_ | refine Ym ?_ | refine Yn ?_ | refine Yo ?_ | refine Yp (h := ?_) | refine Yq ?_ | refine Yr ?_ | refine Ys ?_ | refine Zr hc (hk := ?_) | refine Zd hc (hk := ?_) | (refine Zc (ht := fun hb => ?_) (hf := fun hb => ?_) <;> (try simp at hb)) | fail) | (first | refine Zw hc (hf := by exact hdg) (hk := ?_) | refine Zq hc (hf := by exact hdg) (hk := ?_) | refine Zo hc (hk := ?_) | refine Zu hc (hk := ?_) | refine Ze hc (hk := ?_) | refine Zn hc (hk := ?_) | fail))
      · refine ⟨j + 1, ⟨by omega, by omega, ?_⟩, by omega, run_back [0, 4] [100000] (by simp; exact Gives.mk) (by simp; exact Gives.mk) (by simp)⟩
        rw [h3, hs hb.1, if_pos hb.2]
      · have e : skip isDig t (i + n + 1) = j := by
          rw [h3]
          by_cases hj : j < t.length
          · rw [hs hj, if_neg (by rw [hb hj]; decide)]
          · exact hend (by omega)
        rw [e]
        have hcut2 := skip_cut isDig t (i + n + 1)
        rw [e] at hcut2
        have hP := portOf_ok ((t.drop (i + n + 1)).takeWhile isDig) (by rw [← hcut2]; simp; omega)
        have he := endP_iff t j h2
        have hib := indexByte_ok [47, 63, 35] (t[j]?.getD 0)
        (refine run_drawT 11 hc (by kernel_rfl) (by kernel_rfl) ?_; try simp only [List.take_succ_cons, List.take_zero, List.drop_succ_cons, List.drop_zero])
        repeat' (first | (first | refine Ya ?_ | refine Yb ?_ | refine Yc ?_ | refine Yd ?_ | refine Ye ?_ | refine Yf ?_ | refine Yg ?_ | refine Yh ?_ | refine Yi ?_ | refine Yj ?_ | refine Yk ?_ | refine Yl ?_ | refine Ym ?_ | refine Yn ?_ | refine Yo ?_ | refine Yp (h := ?_) | refine Yq ?_ | refine Yr ?_ | refine Ys ?_ | refine Zr hc (hk := ?_) | refine Zd hc (hk := ?_) | (refine Zc (ht := fun hb => ?_) (hf := fun hb => ?_) <;> (try simp at hb)) | fail) | (first | refine Zo hc (hk := ?_) | refine Zu hc (hk := ?_) | refine Ze hc (hk := ?_) | refine Zn hc (hk := ?_) | fail))
        rw [eT2, hcut2]
        generalize (t.drop (i + n + 1)).takeWhile isDig = q at hP hcut2
        by_cases hz : portB q = 0
        · rw [hz] at hP
          rw [if_pos hz]
          repeat' (first | (first | refine Ya ?_ | refine Yb ?_ | refine Yc ?_ | refine Yd ?_ | refine Ye ?_ | refine Yf ?_ | refine Yg ?_ | refine Yh ?_ | refine Yi ?_ | refine Yj ?_ | refine Yk ?_ | refine Yl ?_ | refine Ym ?_ | refine Yn ?_ | refine Yo ?_ | refine Yp (h := ?_) | refine Yq ?_ | refine Yr ?_ | refine Ys ?_ | refine Zr hc (hk := ?_) | refine Zd hc (hk := ?_) | (refine Zc (ht := fun hb => ?_) (hf := fun hb => ?_) <;> (try simp at hb)) | fail) | (first | refine Zw hc (hf := by exact hP) (hk := ?_) | refine Zq hc (hf := by exact hP) (hk := ?_) | refine Zo hc (hk := ?_) | refine Zu hc (hk := ?_) | refine Ze hc (hk := ?_) | refine Zn hc (hk := ?_) | fail))
          all_goals try contradiction
          (refine run_leaveM [100000] hc (le_end rfl) (by simp; exact Gives.mk) (by simp; exact Gives.mk) (by first | (simp; done) | (simp; omega)) ?_)
          (first | (simp; done) | (simp; omega))
        · rw [if_neg hz]
          repeat' (first | (first | refine Ya ?_ | refine Yb ?_ | refine Yc ?_ | refine Yd ?_ | refine Ye ?_ | refine Yf ?_ | refine Yg ?_ | refine Yh ?_ | refine Yi ?_ | refine Yj ?_ | refine Yk ?_ | refine Yl ?_ | refine Ym ?_ | refine Yn ?_ | refine Yo ?_ | refine Yp (h := ?_) | refine Yq ?_ | refine Yr ?_ | refine Ys ?_ | refine Zr hc (hk := ?_) | refine Zd hc (hk := ?_) | (refine Zc (ht := fun hb => ?_) (hf := fun hb => ?_) <;> (try simp at hb)) | fail) | (first | refine Zw hc (hf := by first | exact hP | exact hib) (hk := ?_) | refine Zq hc (hf := by first | exact hP | exact hib) (hk := ?_) | refine Zo hc (hk := ?_) | refine Zu hc (hk := ?_) | refine Ze hc (hk := ?_) | refine Zn hc (hk := ?_) | fail))
          · exact absurd hb hz
          rw [end_bool t j j rfl h2]
          (refine run_leaveM [100000] hc (le_end rfl) (by simp; exact Gives.mk) (by simp; exact Gives.mk) (by first | (simp; done) | (simp; omega)) ?_)
          (first | (simp; done) | (simp; omega))
    · rw [show ([58] : Bs).isPrefixOf (t.drop (i + n)) = false by rw [← Bool.not_eq_true, List.isPrefixOf_iff_prefix]; exact p1] at hq
      rw [if_neg p1]
      have he := endP_iff t (i + n) hsl
      have hib := indexByte_ok [47, 63, 35] (t[i + n]?.getD 0)
      repeat' (first | (first | refine Ya ?_ | refine Yb ?_ | refine Yc ?_ | refine Yd ?_ | refine Ye ?_ | refine Yf ?_ | refine Yg ?_ | refine Yh ?_ | refine Yi ?_ | refine Yj ?_ | refine Yk ?_ | refine Yl ?_ | refine Ym ?_ | refine Yn ?_ | refine Yo ?_ | refine Yp (h := ?_) | refine Yq ?_ | refine Yr ?_ | refine Ys ?_ | refine Zr hc (hk := ?_) | refine Zd hc (hk := ?_) | (refine Zc (ht := fun hb => ?_) (hf := fun hb => ?_) <;> (try simp at hb)) | fail) | (first | refine Zw hc (hf := by first | exact hH | exact hq | exact hib) (hk := ?_) | refine Zq hc (hf := by first | exact hH | exact hq | exact hib) (hk := ?_) | refine Zo hc (hk := ?_) | refine Zu hc (hk := ?_) | refine Ze hc (hk := ?_) | refine Zn hc (hk := ?_) | fail))
      all_goals try contradiction
      rw [end_bool t (i + n) ((i : Int) + n) (by omega) hsl]
      (refine run_leaveM [100000] hc (le_end rfl) (by simp; exact Gives.mk) (by simp; exact Gives.mk) (by first | (simp; done) | (simp; omega)) ?_)
      (first | (simp; done) | (simp; omega))
end Go.Proofs.YtglonkenckigiaaGreatDoor
/-
  ADDRESS: Read. (WITH run_drawN.)
-/
set_option linter.unusedSimpArgs false
set_option linter.unusedVariables false
namespace Go.Proofs.YtglonkenckigiaaGreatDoor
open Go.Lw Go.RowKit
set_option maxRecDepth 100000
set_option maxHeartbeats 1000000

abbrev adrL (a : Adr) : List D := [str a.scheme, str a.host, str a.port, str a.path, str a.query, tru a.hasQ, str a.frag, tru a.hasF]
abbrev adrD (a : Adr) : D := .agg (adrL a)
@[simp] def readD (x : Adr × Nat × Nat) : D := .tup [adrD x.1, int x.2.1, int x.2.2]
theorem plR_le (t : Bs) (i : Nat) (a : Adr) (hi : i ≤ t.length) : (plR t i a).2.1 ≤ t.length := by
  have h1 := skip_le hostB t i hi
  unfold plR
  split
  · split
    · rename_i h2
      have := pre_lt h2
      have h3 := skip_le isDig t (skip hostB t i + 1) (by omega)
      split
      · simp only; omega
      · simp only; omega
    · exact h1
  · exact hi
theorem pmatch_len : ∀ w t : Bs, pmatch w t ≤ t.length
  | [], t => by simp [pmatch]
  | a :: w, [] => by simp [pmatch]
  | a :: w, b :: t => by
    have := pmatch_len w t
    simp only [pmatch]
    split <;> simp <;> omega
theorem schemeP_le {t s : Bs} {n : Nat} (h : schemeP t = .ok (s, n)) : n ≤ t.length := by
  have h1 := pmatch_len httpW t
  have h2 := pmatch_len httpsW t
  unfold schemeP at h
  split at h
  · cases h; omega
  · split at h
    · cases h; omega
    · cases h
theorem read_ok (t : Bs) (hm : t.length ≤ 9223372036854775807) : FnOk Tryz.prog 44 [str t] (readD (readC t)) := by
  refine fnOk Tryz.func44 rfl (by kernel_rfl) Tryz.ntmps44 _ rfl (by simp) fun C hc => ?_
  by_cases hl : t.length ≤ 2000
  rotate_left
  · have e : readC t = (Adr.zero, 0, 2) := by unfold readC; rw [if_pos (by omega)]
    rw [e]
    repeat' (first | (first | refine Ya ?_ | refine Yb ?_ | refine Yc ?_ | refine Yd ?_ | refine Ye ?_ | refine Yf ?_ | refine Yg ?_ | refine Yh ?_ | refine Yi ?_ | refine Yj ?_ | refine Yk ?_ | refine Yl ?_ | refine Ym ?_ | refine Yn ?_ | refine Yo ?_ | refine Yp (h := ?_) | refine Yq ?_ | refine Yr ?_ | refine Ys ?_ | refine Zr hc (hk := ?_) | refine Zd hc (hk := ?_) | (refine Zc (ht := fun hb => ?_) (hf := fun hb => ?_) <;> (try simp at hb)) | fail) | (first | refine Zo hc (hk := ?_) | refine Zu hc (hk := ?_) | refine Ze hc (hk := ?_) | refine Zn hc (hk := ?_) | fail))
    · (refine Zl hc (hr := ?_))
      simp
    · exfalso; omega
  have hS := scheme_ok t (by omega)
  unfold schD at hS
  rcases hx : schemeP t with k | ⟨s, n⟩
  · have e : readC t = (Adr.zero, k, 10) := by
      unfold readC readP; rw [if_neg (by omega), hx]
    rw [hx] at hS
    rw [e]
    repeat' (first | (first | refine Ya ?_ | refine Yb ?_ | refine Yc ?_ | refine Yd ?_ | refine Ye ?_ | refine Yf ?_ | refine Yg ?_ | refine Yh ?_ | refine Yi ?_ | refine Yj ?_ | refine Yk ?_ | refine Yl ?_ | refine Ym ?_ | refine Yn ?_ | refine Yo ?_ | refine Yp (h := ?_) | refine Yq ?_ | refine Yr ?_ | refine Ys ?_ | refine Zr hc (hk := ?_) | refine Zd hc (hk := ?_) | (refine Zc (ht := fun hb => ?_) (hf := fun hb => ?_) <;> (try simp at hb)) | fail) | (first | refine Zw hc (hf := by exact hS) (hk := ?_) | refine Zq hc (hf := by exact hS) (hk := ?_) | refine Zo hc (hk := ?_) | refine Zu hc (hk := ?_) | refine Ze hc (hk := ?_) | refine Zn hc (hk := ?_) | fail))
    · exfalso; omega
    all_goals try contradiction
    (refine Zl hc (hr := ?_))
    simp
  · rw [hx] at hS
    have hn := schemeP_le hx
    have hR := readR_P t s n hx
    have hP := place_ok t n { Adr.zero with scheme := s } hn (by omega)
    have hk := plR_le t n { Adr.zero with scheme := s } hn
    rcases hpl : plR t n { Adr.zero with scheme := s } with ⟨b1, k1, a1⟩
    rw [hpl] at hR hP hk
    simp only at hR hP hk
    cases b1 with
    | false =>
      have e : readC t = (Adr.zero, k1, 10) := by unfold readC; rw [if_neg (by omega), hR]; rfl
      rw [e]
      repeat' (first | (first | refine Ya ?_ | refine Yb ?_ | refine Yc ?_ | refine Yd ?_ | refine Ye ?_ | refine Yf ?_ | refine Yg ?_ | refine Yh ?_ | refine Yi ?_ | refine Yj ?_ | refine Yk ?_ | refine Yl ?_ | refine Ym ?_ | refine Yn ?_ | refine Yo ?_ | refine Yp (h := ?_) | refine Yq ?_ | refine Yr ?_ | refine Ys ?_ | refine Zr hc (hk := ?_) | refine Zd hc (hk := ?_) | (refine Zc (ht := fun hb => ?_) (hf := fun hb => ?_) <;> (try simp at hb)) | fail) | (first | refine Zw hc (hf := by exact hS) (hk := ?_) | refine Zq hc (hf := by exact hS) (hk := ?_) | refine Zo hc (hk := ?_) | refine Zu hc (hk := ?_) | refine Ze hc (hk := ?_) | refine Zn hc (hk := ?_) | fail) | (first | refine run_callM ([(100000, 26)]) (hP) hc (by simp; exact Gives.mk) (by simp; exact Gives.mk) (by simp; exact Gives.mk) (by simp; exact Gives.mk) (by simp; exact Gives.mk) rfl (by simp; exact Gives.mk) (by simp; exact Gives.mk) rfl (by simp) (by simp) (by simp; exact Gives.mk) (by simp; exact Gives.mk) ?_ | fail) | (first | refine run_skip hc (by simp; exact Gives.mk) (by simp) ?_ | fail))
      · exfalso; omega
      all_goals try contradiction
      (apply run_drawAny 8 hc (by kernel_rfl) rfl; (focus (refine run_anyP 0 hc rfl (by kernel_rfl) rfl (by simp; exact Gives.mk) (by first | exact True.intro | omega | (simp; done) | (simp; omega) | (simp at *; omega)) (by simp) (by simp) (by simp; exact Gives.mk) ?_; refine run_anyM 1 hc rfl (by kernel_rfl) rfl (by first | exact .inl rfl | exact .inr rfl) (by simp; exact Gives.mk) (by simp) (by simp; exact Gives.mk) ?_; refine run_anyP 2 hc rfl (by kernel_rfl) rfl (by simp; exact Gives.mk) (by first | exact True.intro | omega | (simp; done) | (simp; omega) | (simp at *; omega)) (by simp) (by simp) (by simp; exact Gives.mk) ?_; refine run_anyP 3 hc rfl (by kernel_rfl) rfl (by simp; exact Gives.mk) (by first | exact True.intro | omega | (simp; done) | (simp; omega) | (simp at *; omega)) (by simp) (by simp) (by simp; exact Gives.mk) ?_; refine anyW_all [4, 5] (by kernel_rfl) rfl ?_; refine ⟨?_, ?_⟩; (focus (refine run_stepW hc rfl (by simp; exact Ends.go) (by first | exact True.intro | omega | (simp; done) | (simp; omega) | (simp at *; omega)) ?_; refine anyW_all [5] (by kernel_rfl) rfl ?_; (focus (refine run_stepW hc rfl (by simp; exact Ends.go) (by first | exact True.intro | omega | (simp; done) | (simp; omega) | (simp at *; omega)) ?_; refine run_anyM 6 hc rfl (by kernel_rfl) rfl (by first | exact .inl rfl | exact .inr rfl) (by simp; exact Gives.mk) (by simp) (by simp; exact Gives.mk) ?_; refine run_anyM 7 hc rfl (by kernel_rfl) rfl (by first | exact .inl rfl | exact .inr rfl) (by simp; exact Gives.mk) (by simp) (by simp; exact Gives.mk) ?_; refine anyW_done (by kernel_rfl) ?_; exact run_keep [2, 3, 4] [2] (by simp; try exact Gives.mk) (by simp; try exact Gives.mk))))); (focus (refine run_stepW hc rfl (by simp; exact Ends.go) (by first | exact True.intro | omega | (simp; done) | (simp; omega) | (simp at *; omega)) ?_; refine anyW_all [4] (by kernel_rfl) rfl ?_; (focus (refine run_stepW hc rfl (by simp; exact Ends.go) (by first | exact True.intro | omega | (simp; done) | (simp; omega) | (simp at *; omega)) ?_; refine run_anyM 6 hc rfl (by kernel_rfl) rfl (by first | exact .inl rfl | exact .inr rfl) (by simp; exact Gives.mk) (by simp) (by simp; exact Gives.mk) ?_; refine run_anyM 7 hc rfl (by kernel_rfl) rfl (by first | exact .inl rfl | exact .inr rfl) (by simp; exact Gives.mk) (by simp) (by simp; exact Gives.mk) ?_; refine anyW_done (by kernel_rfl) ?_; exact run_back [2, 3, 4] [2] (by simp; exact Gives.mk) (by simp; exact Gives.mk) (by simp))))))))
      repeat' (first | (first | refine Ya ?_ | refine Yb ?_ | refine Yc ?_ | refine Yd ?_ | refine Ye ?_ | refine Yf ?_ | refine Yg ?_ | refine Yh ?_ | refine Yi ?_ | refine Yj ?_ | refine Yk ?_ | refine Yl ?_ | refine Ym ?_ | refine Yn ?_ | refine Yo ?_ | refine Yp (h := ?_) | refine Yq ?_ | refine Yr ?_ | refine Ys ?_ | refine Zr hc (hk := ?_) | refine Zd hc (hk := ?_) | (refine Zc (ht := fun hb => ?_) (hf := fun hb => ?_) <;> (try simp at hb)) | fail) | (first | refine Zo hc (hk := ?_) | refine Zu hc (hk := ?_) | refine Ze hc (hk := ?_) | refine Zn hc (hk := ?_) | fail))
      (refine Zl hc (hr := ?_))
      simp
    | true =>
      have hQ := rest_ok t k1 a1 hk (by omega)
      rcases hre : reR t k1 a1 with ⟨b2, k2, a2⟩
      rw [hre] at hR hQ
      simp only at hR hQ
      cases b2 with
      | false =>
        have e : readC t = (Adr.zero, k2, 10) := by unfold readC; rw [if_neg (by omega), hR]; rfl
        rw [e]
        repeat' (first | (first | refine Ya ?_ | refine Yb ?_ | refine Yc ?_ | refine Yd ?_ | refine Ye ?_ | refine Yf ?_ | refine Yg ?_ | refine Yh ?_ | refine Yi ?_ | refine Yj ?_ | refine Yk ?_ | refine Yl ?_ | refine Ym ?_ | refine Yn ?_ | refine Yo ?_ | refine Yp (h := ?_) | refine Yq ?_ | refine Yr ?_ | refine Ys ?_ | refine Zr hc (hk := ?_) | refine Zd hc (hk := ?_) | (refine Zc (ht := fun hb => ?_) (hf := fun hb => ?_) <;> (try simp at hb)) | fail) | (first | refine Zw hc (hf := by exact hS) (hk := ?_) | refine Zq hc (hf := by exact hS) (hk := ?_) | refine Zo hc (hk := ?_) | refine Zu hc (hk := ?_) | refine Ze hc (hk := ?_) | refine Zn hc (hk := ?_) | fail) | (first | refine run_callM ([(100000, 26)]) (hP) hc (by simp; exact Gives.mk) (by simp; exact Gives.mk) (by simp; exact Gives.mk) (by simp; exact Gives.mk) (by simp; exact Gives.mk) rfl (by simp; exact Gives.mk) (by simp; exact Gives.mk) rfl (by simp) (by simp) (by simp; exact Gives.mk) (by simp; exact Gives.mk) ?_ | fail) | (first | refine run_callM ([(100000, 26)]) (hQ) hc (by simp; exact Gives.mk) (by simp; exact Gives.mk) (by simp; exact Gives.mk) (by simp; exact Gives.mk) (by simp; exact Gives.mk) rfl (by simp; exact Gives.mk) (by simp; exact Gives.mk) rfl (by simp) (by simp) (by simp; exact Gives.mk) (by simp; exact Gives.mk) ?_ | fail))
        · exfalso; omega
        all_goals try contradiction
        (apply run_drawAny 8 hc (by kernel_rfl) rfl; (focus (refine run_anyP 0 hc rfl (by kernel_rfl) rfl (by simp; exact Gives.mk) (by first | exact True.intro | omega | (simp; done) | (simp; omega) | (simp at *; omega)) (by simp) (by simp) (by simp; exact Gives.mk) ?_; refine run_anyM 1 hc rfl (by kernel_rfl) rfl (by first | exact .inl rfl | exact .inr rfl) (by simp; exact Gives.mk) (by simp) (by simp; exact Gives.mk) ?_; refine run_anyP 2 hc rfl (by kernel_rfl) rfl (by simp; exact Gives.mk) (by first | exact True.intro | omega | (simp; done) | (simp; omega) | (simp at *; omega)) (by simp) (by simp) (by simp; exact Gives.mk) ?_; refine run_anyP 3 hc rfl (by kernel_rfl) rfl (by simp; exact Gives.mk) (by first | exact True.intro | omega | (simp; done) | (simp; omega) | (simp at *; omega)) (by simp) (by simp) (by simp; exact Gives.mk) ?_; refine anyW_all [4, 5] (by kernel_rfl) rfl ?_; refine ⟨?_, ?_⟩; (focus (refine run_stepW hc rfl (by simp; exact Ends.go) (by first | exact True.intro | omega | (simp; done) | (simp; omega) | (simp at *; omega)) ?_; refine anyW_all [5] (by kernel_rfl) rfl ?_; (focus (refine run_stepW hc rfl (by simp; exact Ends.go) (by first | exact True.intro | omega | (simp; done) | (simp; omega) | (simp at *; omega)) ?_; refine run_anyM 6 hc rfl (by kernel_rfl) rfl (by first | exact .inl rfl | exact .inr rfl) (by simp; exact Gives.mk) (by simp) (by simp; exact Gives.mk) ?_; refine run_anyM 7 hc rfl (by kernel_rfl) rfl (by first | exact .inl rfl | exact .inr rfl) (by simp; exact Gives.mk) (by simp) (by simp; exact Gives.mk) ?_; refine anyW_done (by kernel_rfl) ?_; exact run_keep [2, 3, 4] [2] (by simp; try exact Gives.mk) (by simp; try exact Gives.mk))))); (focus (refine run_stepW hc rfl (by simp; exact Ends.go) (by first | exact True.intro | omega | (simp; done) | (simp; omega) | (simp at *; omega)) ?_; refine anyW_all [4] (by kernel_rfl) rfl ?_; (focus (refine run_stepW hc rfl (by simp; exact Ends.go) (by first | exact True.intro | omega | (simp; done) | (simp; omega) | (simp at *; omega)) ?_; refine run_anyM 6 hc rfl (by kernel_rfl) rfl (by first | exact .inl rfl | exact .inr rfl) (by simp; exact Gives.mk) (by simp) (by simp; exact Gives.mk) ?_; refine run_anyM 7 hc rfl (by kernel_rfl) rfl (by first | exact .inl rfl | exact .inr rfl) (by simp; exact Gives.mk) (by simp) (by simp; exact Gives.mk) ?_; refine anyW_done (by kernel_rfl) ?_; exact run_back [2, 3, 4] [2] (by simp; exact Gives.mk) (by simp; exact Gives.mk) (by simp))))))))
        repeat' (first | (first | refine Ya ?_ | refine Yb ?_ | refine Yc ?_ | refine Yd ?_ | refine Ye ?_ | refine Yf ?_ | refine Yg ?_ | refine Yh ?_ | refine Yi ?_ | refine Yj ?_ | refine Yk ?_ | refine Yl ?_ | refine Ym ?_ | refine Yn ?_ | refine Yo ?_ | refine Yp (h := ?_) | refine Yq ?_ | refine Yr ?_ | refine Ys ?_ | refine Zr hc (hk := ?_) | refine Zd hc (hk := ?_) | (refine Zc (ht := fun hb => ?_) (hf := fun hb => ?_) <;> (try simp at hb)) | fail) | (first | refine Zo hc (hk := ?_) | refine Zu hc (hk := ?_) | refine Ze hc (hk := ?_) | refine Zn hc (hk := ?_) | fail))
        (refine Zl hc (hr := ?_))
        simp
      | true =>
        have e : readC t = (a2, 0, 0) := by unfold readC; rw [if_neg (by omega), hR]; rfl
        rw [e]
        repeat' (first | (first | refine Ya ?_ | refine Yb ?_ | refine Yc ?_ | refine Yd ?_ | refine Ye ?_ | refine Yf ?_ | refine Yg ?_ | refine Yh ?_ | refine Yi ?_ | refine Yj ?_ | refine Yk ?_ | refine Yl ?_ | refine Ym ?_ | refine Yn ?_ | refine Yo ?_ | refine Yp (h := ?_) | refine Yq ?_ | refine Yr ?_ | refine Ys ?_ | refine Zr hc (hk := ?_) | refine Zd hc (hk := ?_) | (refine Zc (ht := fun hb => ?_) (hf := fun hb => ?_) <;> (try simp at hb)) | fail) | (first | refine Zw hc (hf := by exact hS) (hk := ?_) | refine Zq hc (hf := by exact hS) (hk := ?_) | refine Zo hc (hk := ?_) | refine Zu hc (hk := ?_) | refine Ze hc (hk := ?_) | refine Zn hc (hk := ?_) | fail) | (first | refine run_callM ([(100000, 26)]) (hP) hc (by simp; exact Gives.mk) (by simp; exact Gives.mk) (by simp; exact Gives.mk) (by simp; exact Gives.mk) (by simp; exact Gives.mk) rfl (by simp; exact Gives.mk) (by simp; exact Gives.mk) rfl (by simp) (by simp) (by simp; exact Gives.mk) (by simp; exact Gives.mk) ?_ | fail) | (first | refine run_callM ([(100000, 26)]) (hQ) hc (by simp; exact Gives.mk) (by simp; exact Gives.mk) (by simp; exact Gives.mk) (by simp; exact Gives.mk) (by simp; exact Gives.mk) rfl (by simp; exact Gives.mk) (by simp; exact Gives.mk) rfl (by simp) (by simp) (by simp; exact Gives.mk) (by simp; exact Gives.mk) ?_ | fail))
        · exfalso; omega
        all_goals try contradiction
        (refine Zl hc (hr := ?_))
        simp
end Go.Proofs.YtglonkenckigiaaGreatDoor
/-
  ADDRESS: write, CheckAddress, Text. (WITH run_drawN.)
-/
set_option linter.unusedSimpArgs false
set_option linter.unusedVariables false
namespace Go.Proofs.YtglonkenckigiaaGreatDoor
open Go.Lw Go.RowKit
set_option maxRecDepth 100000
set_option maxHeartbeats 1000000

/-- Strings as long as the form lets them be. -/
structure Adr.Fits (a : Adr) : Prop where
  scheme : a.scheme.length ≤ 140737488355327
  host : a.host.length ≤ 140737488355327
  port : a.port.length ≤ 140737488355327
  path : a.path.length ≤ 140737488355327
  query : a.query.length ≤ 140737488355327
  frag : a.frag.length ≤ 140737488355327
theorem behind_ok (a : Adr) (hf : a.Fits) : FnOk Tryz.prog 40 [adrD a] (str (behindA a)) := by
  refine fnOk Tryz.func40 rfl (by kernel_rfl) Tryz.ntmps40 _ rfl (by simp) fun C hc => ?_
  obtain ⟨h1, h2, h3, h4, h5, h6⟩ := hf
  repeat' (first | (first | refine Ya ?_ | refine Yb ?_ | refine Yc ?_ | refine Yd ?_ | refine Ye ?_ | refine Yf ?_ | refine Yg ?_ | refine Yh ?_ | refine Yi ?_ | refine Yj ?_ | refine Yk ?_ | refine Yl ?_ | refine Ym ?_ | refine Yn ?_ | refine Yo ?_ | refine Yp (h := ?_) | refine Yq ?_ | refine Yr ?_ | refine Ys ?_ | refine Zr hc (hk := ?_) | refine Zd hc (hk := ?_) | (refine Zc (ht := fun hb => ?_) (hf := fun hb => ?_) <;> (try simp at hb)) | fail) | (first | refine Zo hc (hk := ?_) | refine Zu hc (hk := ?_) | refine Ze hc (hk := ?_) | refine Zn hc (hk := ?_) | fail))
  all_goals rename_i hq
  all_goals (refine Zl hc (hr := ?_))
  all_goals simp [behindA, qPart, fPart, hb, hq]
theorem behind_len (a : Adr) (hf : a.Fits) : (behindA a).length ≤ 422212465065984 + 2 := by
  obtain ⟨h1, h2, h3, h4, h5, h6⟩ := hf
  unfold behindA qPart fPart
  split <;> split <;> simp <;> omega
theorem write_ok (a : Adr) (hf : a.Fits) : FnOk Tryz.prog 41 [adrD a] (str (writeA a)) := by
  refine fnOk Tryz.func41 rfl (by kernel_rfl) Tryz.ntmps41 _ rfl (by simp) fun C hc => ?_
  have hB := behind_ok a hf
  have hl := behind_len a hf
  obtain ⟨h1, h2, h3, h4, h5, h6⟩ := hf
  repeat' (first | (first | refine Ya ?_ | refine Yb ?_ | refine Yc ?_ | refine Yd ?_ | refine Ye ?_ | refine Yf ?_ | refine Yg ?_ | refine Yh ?_ | refine Yi ?_ | refine Yj ?_ | refine Yk ?_ | refine Yl ?_ | refine Ym ?_ | refine Yn ?_ | refine Yo ?_ | refine Yp (h := ?_) | refine Yq ?_ | refine Yr ?_ | refine Ys ?_ | refine Zr hc (hk := ?_) | refine Zd hc (hk := ?_) | (refine Zc (ht := fun hb => ?_) (hf := fun hb => ?_) <;> (try simp at hb)) | fail) | (first | refine Zw hc (hf := by exact hB) (hk := ?_) | refine Zq hc (hf := by exact hB) (hk := ?_) | refine Zo hc (hk := ?_) | refine Zu hc (hk := ?_) | refine Ze hc (hk := ?_) | refine Zn hc (hk := ?_) | fail))
  · (refine Zl hc (hr := ?_))
    simp [writeA, pPart, hb]
  · (refine Zl hc (hr := ?_))
    simp [writeA, pPart, hb]
/-! The check. -/
theorem okS_iff (s : Bs) : okS s ↔ (small s = [104, 116, 116, 112] ∨ small s = [104, 116, 116, 112, 115]) := Iff.rfl
theorem chk_S {a : Adr} (h : chkS a) : chkC a = 10 := by unfold chkC; rw [if_pos h]
theorem chk_R {a : Adr} (h0 : ¬ chkS a) (h : chkR a) : chkC a = 10 := by unfold chkC; rw [if_neg h0, if_pos h]
theorem chk_F {a : Adr} (h0 : ¬ chkS a) (h1 : ¬ chkR a) (h : chkF a) : chkC a = 3 := by unfold chkC; rw [if_neg h0, if_neg h1, if_pos h]
theorem chk_L {a : Adr} (h0 : ¬ chkS a) (h1 : ¬ chkR a) (h2 : ¬ chkF a) : chkC a = if 2000 < (writeA a).length then 2 else 0 := by unfold chkC; rw [if_neg h0, if_neg h1, if_neg h2]
theorem chk_nR {a : Adr} (k1 : (¬ a.path = [] → ((a.path[0]?.getD 0).toNat : Int) = 47) ∧ isRow [63] a.path) (k2 : isRow [] a.query) (k3 : isRow [] a.frag) : ¬ chkR a := by
  rintro (h | h | h | h)
  · have := k1.1 h.1; have := h.2; omega
  · exact h k1.2
  · exact h k2
  · exact h k3
theorem chk_nF {a : Adr} (k1 : ¬ a.query = [] → a.hasQ = true) (k2 : ¬ a.frag = [] → a.hasF = true) : ¬ chkF a := by
  rintro (h | h)
  · have := k1 h.1; rw [h.2] at this; cases this
  · have := k2 h.1; rw [h.2] at this; cases this
theorem check_ok (a : Adr) (hf : a.Fits) : FnOk Tryz.prog 19 [adrD a] (int (chkC a)) := by
  refine fnOk Tryz.func19 rfl (by kernel_rfl) Tryz.ntmps19 _ rfl (by simp) fun C hc => ?_
  have hW := write_ok a hf
  obtain ⟨h1, h2, h3, h4, h5, h6⟩ := hf
  have hSm := small_ok a.scheme (by omega)
  have hHo := isHost_ok a.host (by omega)
  have hPo := portOf_ok a.port (by omega)
  have hR1 := isRow_ok a.path [63] (by omega)
  have hR2 := isRow_ok a.query [] (by omega)
  have hR3 := isRow_ok a.frag [] (by omega)
  repeat' (first | (first | refine Ya ?_ | refine Yb ?_ | refine Yc ?_ | refine Yd ?_ | refine Ye ?_ | refine Yf ?_ | refine Yg ?_ | refine Yh ?_ | refine Yi ?_ | refine Yj ?_ | refine Yk ?_ | refine Yl ?_ | refine Ym ?_ | refine Yn ?_ | refine Yo ?_ | refine Yp (h := ?_) | refine Yq ?_ | refine Yr ?_ | refine Ys ?_ | refine Zr hc (hk := ?_) | refine Zd hc (hk := ?_) | (refine Zc (ht := fun hb => ?_) (hf := fun hb => ?_) <;> (try simp at hb)) | fail) | (first | refine Zw hc (hf := by first | exact hSm | exact hHo | exact hPo) (hk := ?_) | refine Zq hc (hf := by first | exact hSm | exact hHo | exact hPo) (hk := ?_) | refine Zo hc (hk := ?_) | refine Zu hc (hk := ?_) | refine Ze hc (hk := ?_) | refine Zn hc (hk := ?_) | fail))
  all_goals try (exfalso; simp_all; done)
  all_goals skip
  · have e : chkC a = 10 := by unfold chkC; rw [if_pos (.inl (fun h => by rcases h with h | h; exact hb.1 h; exact hb.2 h))]
    rw [e]
    (refine Zl hc (hr := ?_))
    simp
  · have e : chkC a = 10 := by unfold chkC; rw [if_pos (.inr (.inl hb))]
    rw [e]
    (refine Zl hc (hr := ?_))
    simp
  · have e : chkC a = 10 := by unfold chkC; rw [if_pos (.inr (.inr hb))]
    rw [e]
    (refine Zl hc (hr := ?_))
    simp
  have hS0 : ¬ chkS a := by
    rename_i k1 k2
    rintro (h | h | h)
    · exact h (by
        by_cases e : small a.scheme = [104, 116, 116, 112]
        · exact .inl e
        · exact .inr (k1 e))
    · rw [h] at k2; cases k2
    · exact hb h.1 h.2
  have hpl : ¬ a.path = [] → 0 < a.path.length := fun h => by
    cases e : a.path with
    | nil => exact absurd e h
    | cons c r => simp
  repeat' (first | (first | refine Ya ?_ | refine Yb ?_ | refine Yc ?_ | refine Yd ?_ | refine Ye ?_ | refine Yf ?_ | refine Yg ?_ | refine Yh ?_ | refine Yi ?_ | refine Yj ?_ | refine Yk ?_ | refine Yl ?_ | refine Ym ?_ | refine Yn ?_ | refine Yo ?_ | refine Yp (h := ?_) | refine Yq ?_ | refine Yr ?_ | refine Ys ?_ | refine Zr hc (hk := ?_) | refine Zd hc (hk := ?_) | (refine Zc (ht := fun hb => ?_) (hf := fun hb => ?_) <;> (try simp at hb)) | fail) | (first | refine Zw hc (hf := by first | exact hR1 | exact hR2 | exact hR3 | exact hW) (hk := ?_) | refine Zq hc (hf := by first | exact hR1 | exact hR2 | exact hR3 | exact hW) (hk := ?_) | refine Zo hc (hk := ?_) | refine Zu hc (hk := ?_) | refine Ze hc (hk := ?_) | refine Zn hc (hk := ?_) | fail))
  all_goals try (exfalso; simp_all; done)
  · rw [chk_R hS0 (by
      rcases hb with h | h
      · exact .inl ⟨h.1, by omega⟩
      · exact .inr (.inl h))]
    (refine Zl hc (hr := ?_))
    simp
  · rw [chk_R hS0 (.inr (.inr (.inl hb)))]
    (refine Zl hc (hr := ?_))
    simp
  · rw [chk_R hS0 (.inr (.inr (.inr hb)))]
    (refine Zl hc (hr := ?_))
    simp
  · rename_i k1 k2 k3 k4
    rw [chk_F hS0 (chk_nR k1 k2 k3) (.inl hb)]
    (refine Zl hc (hr := ?_))
    simp
  · rename_i k1 k2 k3 k4
    rw [chk_F hS0 (chk_nR k1 k2 k3) (.inr hb)]
    (refine Zl hc (hr := ?_))
    simp
  · rename_i k1 k2 k3 k4 k5
    rw [chk_L hS0 (chk_nR k1 k2 k3) (chk_nF k4 k5), if_pos (by omega)]
    (refine Zl hc (hr := ?_))
    simp
  · rename_i k1 k2 k3 k4 k5
    rw [chk_L hS0 (chk_nR k1 k2 k3) (chk_nF k4 k5), if_neg (by omega)]
    (refine Zl hc (hr := ?_))
    simp
def textC (a : Adr) : Bs × Nat := if chkC a = 0 then (writeA a, 0) else ([], chkC a)
theorem text_ok (a : Adr) (hf : a.Fits) : FnOk Tryz.prog 15 [adrD a] (.tup [str (textC a).1, int (textC a).2]) := by
  refine fnOk Tryz.func15 rfl (by kernel_rfl) Tryz.ntmps15 _ rfl (by simp) fun C hc => ?_
  have hW := write_ok a hf
  have hC := check_ok a hf
  unfold textC
  by_cases h : chkC a = 0
  · rw [if_pos h]
    rw [h] at hC
    repeat' (first | (first | refine Ya ?_ | refine Yb ?_ | refine Yc ?_ | refine Yd ?_ | refine Ye ?_ | refine Yf ?_ | refine Yg ?_ | refine Yh ?_ | refine Yi ?_ | refine Yj ?_ | refine Yk ?_ | refine Yl ?_ | refine Ym ?_ | refine Yn ?_ | refine Yo ?_ | refine Yp (h := ?_) | refine Yq ?_ | refine Yr ?_ | refine Ys ?_ | refine Zr hc (hk := ?_) | refine Zd hc (hk := ?_) | (refine Zc (ht := fun hb => ?_) (hf := fun hb => ?_) <;> (try simp at hb)) | fail) | (first | refine Zw hc (hf := by first | exact hC | exact hW) (hk := ?_) | refine Zq hc (hf := by first | exact hC | exact hW) (hk := ?_) | refine Zo hc (hk := ?_) | refine Zu hc (hk := ?_) | refine Ze hc (hk := ?_) | refine Zn hc (hk := ?_) | fail))
    all_goals try contradiction
    (refine Zl hc (hr := ?_))
    simp
  · rw [if_neg h]
    repeat' (first | (first | refine Ya ?_ | refine Yb ?_ | refine Yc ?_ | refine Yd ?_ | refine Ye ?_ | refine Yf ?_ | refine Yg ?_ | refine Yh ?_ | refine Yi ?_ | refine Yj ?_ | refine Yk ?_ | refine Yl ?_ | refine Ym ?_ | refine Yn ?_ | refine Yo ?_ | refine Yp (h := ?_) | refine Yq ?_ | refine Yr ?_ | refine Ys ?_ | refine Zr hc (hk := ?_) | refine Zd hc (hk := ?_) | (refine Zc (ht := fun hb => ?_) (hf := fun hb => ?_) <;> (try simp at hb)) | fail) | (first | refine Zw hc (hf := by first | exact hC | exact hW) (hk := ?_) | refine Zq hc (hf := by first | exact hC | exact hW) (hk := ?_) | refine Zo hc (hk := ?_) | refine Zu hc (hk := ?_) | refine Ze hc (hk := ?_) | refine Zn hc (hk := ?_) | fail))
    · (refine Zl hc (hr := ?_))
      simp
    · exact absurd hb h
end Go.Proofs.YtglonkenckigiaaGreatDoor
