/-
  PAGE: the first attribute with a name, the base, kinds of links. (WITH run_drawN.)
-/
import Derived.Test.YtjbabjfmcganpaaGreatDoorLkW
import Derived.Test.YtjbabjfmcganpaaGreatDoorLwFlt
import Derived.Test.YtjbabjfmcganpaaGreatDoorLibS
import Derived.Test.YtjbabjfmcganpaaGreatDoorOwnD
set_option linter.unusedSimpArgs false
set_option linter.unusedVariables false
namespace Go.Proofs.YtjbabjfmcganpaaGreatDoor
open Go.Lw Go.RowKit
set_option maxRecDepth 100000
set_option maxHeartbeats 1000000

theorem pAttr_ok (t : Tk) (n : Bs) (hl : t.atts.length ≤ 200000) : FnOk Tryz.prog 87 [.agg (encU t), str n] (.tup [.agg (encA (atrAt t.atts n 0).1), tru (atrAt t.atts n 0).2]) := by
  refine fnOk Tryz.func87 rfl (by kernel_rfl) Tryz.ntmps87 _ rfl (by simp) fun C hc => ?_
  generalize hm : t.atts = m at hl ⊢
  repeat' (first | (first | refine Ya ?_ | refine Yb ?_ | refine Yc ?_ | refine Yd ?_ | refine Ye ?_ | refine Yf ?_ | refine Yg ?_ | refine Yh ?_ | refine Yi ?_ | refine Yj ?_ | refine Yk ?_ | refine Yl ?_ | refine Ym ?_ | refine Yn ?_ | refine Yo ?_ | refine Yp (h := ?_) | refine Yq ?_ | refine Yr ?_ | refine Ys ?_ | refine Zr hc (hk := ?_) | refine Zd hc (hk := ?_) | (refine Zc (ht := fun hb => ?_) (hf := fun hb => ?_) <;> (try simp at hb)) | fail) | (first | refine Zo hc (hk := ?_) | refine Zu hc (hk := ?_) | refine Ze hc (hk := ?_) | refine Zn hc (hk := ?_) | fail))
  rw [hm]
  refine ewp_loop (fun j : Nat => ⟨[(1, .d (str n)), (4, .bp 4 0), (5, .d (tru false)), (9, .d (attSl m)), (10, .d (int m.length)), (11, .d (int j))], [(4, .box 99 [.d (str []), .d (str []), .d (int 0), .d (int 0), .d (tru false)])]⟩) (fun j => j ≤ m.length ∧ atrAt m n 0 = atrAt m n j) (fun j => m.length - j) 0 (by simp) (run_keep [1, 4, 5, 9, 10, 11] [4] (by simp; exact Gives.mk) (by simp; exact Gives.mk)) ?_
  rintro j ⟨hj, hA⟩
  have hst : atrAt m n j = if j < m.length then (if (m[j]?.getD .none).name = n then (m[j]?.getD .none, (m[j]?.getD .none).has) else atrAt m n (j + 1)) else (.none, false) := by rw [atrAt]
  repeat' (first | (first | refine Ya ?_ | refine Yb ?_ | refine Yc ?_ | refine Yd ?_ | refine Ye ?_ | refine Yf ?_ | refine Yg ?_ | refine Yh ?_ | refine Yi ?_ | refine Yj ?_ | refine Yk ?_ | refine Yl ?_ | refine Ym ?_ | refine Yn ?_ | refine Yo ?_ | refine Yp (h := ?_) | refine Yq ?_ | refine Yr ?_ | refine Ys ?_ | refine Zr hc (hk := ?_) | refine Zd hc (hk := ?_) | (refine Zc (ht := fun hb => ?_) (hf := fun hb => ?_) <;> (try simp at hb)) | fail) | (first | refine Zo hc (hk := ?_) | refine Zu hc (hk := ?_) | refine Ze hc (hk := ?_) | refine Zn hc (hk := ?_) | fail))
  · rw [hA, hst, if_pos (by assumption), if_pos hb]
    (apply run_drawAny 5 hc (by kernel_rfl) rfl; (focus (refine run_anyP 1 hc rfl (by kernel_rfl) rfl (by simp; exact Gives.mk) (by first | exact True.intro | omega | (simp; done) | (simp; omega) | (simp at *; omega)) (by simp) (by simp) (by simp; exact Gives.mk) ?_; refine anyW_all [0, 2] (by kernel_rfl) rfl ?_; refine ⟨?_, ?_⟩; (focus (refine run_stepW hc rfl (by simp; exact Ends.go) (by first | exact True.intro | omega | (simp; done) | (simp; omega) | (simp at *; omega)) ?_; refine anyW_all [2, 3] (by kernel_rfl) rfl ?_; refine ⟨?_, ?_⟩; (focus (refine run_stepW hc rfl (by simp; exact Ends.go) (by first | exact True.intro | omega | (simp; done) | (simp; omega) | (simp at *; omega)) ?_; refine anyW_all [3] (by kernel_rfl) rfl ?_; (focus (refine run_stepW hc rfl (by simp; exact Ends.go) (by first | exact True.intro | omega | (simp; done) | (simp; omega) | (simp at *; omega)) ?_; refine run_anyM 4 hc rfl (by kernel_rfl) rfl (by first | exact .inl rfl | exact .inr rfl) (by simp; exact Gives.mk) (by simp) (by simp; exact Gives.mk) ?_; refine anyW_done (by kernel_rfl) ?_; exact run_keep [4, 5] [4] (by simp; try exact Gives.mk) (by simp; try exact Gives.mk))))); (focus (refine run_stepW hc rfl (by simp; exact Ends.go) (by first | exact True.intro | omega | (simp; done) | (simp; omega) | (simp at *; omega)) ?_; refine anyW_all [2] (by kernel_rfl) rfl ?_; (focus (refine run_stepW hc rfl (by simp; exact Ends.go) (by first | exact True.intro | omega | (simp; done) | (simp; omega) | (simp at *; omega)) ?_; refine run_anyM 4 hc rfl (by kernel_rfl) rfl (by first | exact .inl rfl | exact .inr rfl) (by simp; exact Gives.mk) (by simp) (by simp; exact Gives.mk) ?_; refine anyW_done (by kernel_rfl) ?_; exact run_back [4, 5] [4] (by simp; exact Gives.mk) (by simp; exact Gives.mk) (by simp))))))); (focus (refine run_stepW hc rfl (by simp; exact Ends.go) (by first | exact True.intro | omega | (simp; done) | (simp; omega) | (simp at *; omega)) ?_; refine anyW_all [0] (by kernel_rfl) rfl ?_; (focus (refine run_stepW hc rfl (by simp; exact Ends.go) (by first | exact True.intro | omega | (simp; done) | (simp; omega) | (simp at *; omega)) ?_; refine anyW_all [3] (by kernel_rfl) rfl ?_; (focus (refine run_stepW hc rfl (by simp; exact Ends.go) (by first | exact True.intro | omega | (simp; done) | (simp; omega) | (simp at *; omega)) ?_; refine run_anyM 4 hc rfl (by kernel_rfl) rfl (by first | exact .inl rfl | exact .inr rfl) (by simp; exact Gives.mk) (by simp) (by simp; exact Gives.mk) ?_; refine anyW_done (by kernel_rfl) ?_; exact run_back [4, 5] [4] (by simp; exact Gives.mk) (by simp; exact Gives.mk) (by simp))))))))))
    repeat' (first | (first | refine Ya ?_ | refine Yb ?_ | refine Yc ?_ | refine Yd ?_ | refine Ye ?_ | refine Yf ?_ | refine Yg ?_ | refine Yh ?_ | refine Yi ?_ | refine Yj ?_ | refine Yk ?_ | refine Yl ?_ | refine Ym ?_ | refine Yn ?_ | refine Yo ?_ | refine Yp (h := ?_) | refine Yq ?_ | refine Yr ?_ | refine Ys ?_ | refine Zr hc (hk := ?_) | refine Zd hc (hk := ?_) | (refine Zc (ht := fun hb => ?_) (hf := fun hb => ?_) <;> (try simp at hb)) | fail) | (first | refine Zo hc (hk := ?_) | refine Zu hc (hk := ?_) | refine Ze hc (hk := ?_) | refine Zn hc (hk := ?_) | fail))
    (refine Zl hc (hr := ?_))
    simp
  · exact ⟨j + 1, ⟨by omega, by rw [hA, hst, if_pos (by assumption), if_neg hb]⟩, by omega, run_back [1, 4, 5, 9, 10, 11] [4] (by simp; exact Gives.mk) (by simp; exact Gives.mk) (by simp)⟩
  · rw [hA, hst, if_neg (by omega)]
    (refine Zl hc (hr := ?_))
    simp
/-- Tokens as they may be handed on. -/
structure TkFit (m : List Tk) : Prop where
  len : m.length ≤ 20000
  atts : ∀ i : Nat, (m[i]?.getD Tk.none).atts.length ≤ 200000
  vals : ∀ i : Nat, ∀ a ∈ (m[i]?.getD Tk.none).atts, a.val.length ≤ 200000
theorem base_ok (m : List Tk) (a : Adr) (hF : a.Fits) (hm : TkFit m) : FnOk Tryz.prog 52 [tokSu m, adrD a] (adrD (baseAt m a 0)) := by
  refine fnOk Tryz.func52 rfl (by kernel_rfl) Tryz.ntmps52 _ rfl (by simp) fun C hc => ?_
  have hml := hm.len
  repeat' (first | (first | refine Ya ?_ | refine Yb ?_ | refine Yc ?_ | refine Yd ?_ | refine Ye ?_ | refine Yf ?_ | refine Yg ?_ | refine Yh ?_ | refine Yi ?_ | refine Yj ?_ | refine Yk ?_ | refine Yl ?_ | refine Ym ?_ | refine Yn ?_ | refine Yo ?_ | refine Yp (h := ?_) | refine Yq ?_ | refine Yr ?_ | refine Ys ?_ | refine Zr hc (hk := ?_) | refine Zd hc (hk := ?_) | (refine Zc (ht := fun hb => ?_) (hf := fun hb => ?_) <;> (try simp at hb)) | fail) | (first | refine Zo hc (hk := ?_) | refine Zu hc (hk := ?_) | refine Ze hc (hk := ?_) | refine Zn hc (hk := ?_) | fail))
  refine ewp_loop (fun j : Nat => ⟨[(3, .bp 3 0), (4, .bp 4 0), (11, .d (tokSu m)), (12, .d (int m.length)), (13, .d (int j))], [(3, .box 24 ((adrL a).map V.d)), (4, .box 24 ((adrL Adr.zero).map V.d))]⟩) (fun j => j ≤ m.length ∧ baseAt m a 0 = baseAt m a j) (fun j => m.length - j) 0 (by simp) (run_keep [3, 4, 11, 12, 13] [3, 4] (by simp; exact Gives.mk) (by simp; exact Gives.mk)) ?_
  rintro j ⟨hj, hA⟩
  have hst : baseAt m a j = if j < m.length then
    (if (m[j]?.getD .none).kind = 2 ∧ (m[j]?.getD .none).name = wBase ∧ (atrAt (m[j]?.getD .none).atts wHref 0).2 = true then
      (if (resR a (atrAt (m[j]?.getD .none).atts wHref 0).1.val).2 = 0 then (resR a (atrAt (m[j]?.getD .none).atts wHref 0).1.val).1 else a)
    else baseAt m a (j + 1)) else a := by rw [baseAt]
  have hat := pAttr_ok (m[j]?.getD .none) wHref (hm.atts j)
  have hv : (atrAt (m[j]?.getD .none).atts wHref 0).2 = true → (atrAt (m[j]?.getD .none).atts wHref 0).1.val.length ≤ 200000 := fun h => hm.vals j _ (atrAt_mem _ _ _ h)
  generalize atrAt (m[j]?.getD .none).atts wHref 0 = x at hat hv hst
  obtain ⟨x, o⟩ := x
  simp only at hat hv hst
  by_cases hx : x.val.length ≤ 200000
  · have hR := resolve_ok a x.val hF (by omega)
    generalize resR a x.val = r at hR hst
    obtain ⟨r, f⟩ := r
    simp only at hR hst
    repeat' (first | (first | refine Ya ?_ | refine Yb ?_ | refine Yc ?_ | refine Yd ?_ | refine Ye ?_ | refine Yf ?_ | refine Yg ?_ | refine Yh ?_ | refine Yi ?_ | refine Yj ?_ | refine Yk ?_ | refine Yl ?_ | refine Ym ?_ | refine Yn ?_ | refine Yo ?_ | refine Yp (h := ?_) | refine Yq ?_ | refine Yr ?_ | refine Ys ?_ | refine Zr hc (hk := ?_) | refine Zd hc (hk := ?_) | (refine Zc (ht := fun hb => ?_) (hf := fun hb => ?_) <;> (try simp at hb)) | fail) | (first | refine Zw hc (hf := by first | exact hat | exact hR) (hk := ?_) | refine Zq hc (hf := by first | exact hat | exact hR) (hk := ?_) | refine Zo hc (hk := ?_) | refine Zu hc (hk := ?_) | refine Ze hc (hk := ?_) | refine Zn hc (hk := ?_) | fail))
    · exact ⟨j + 1, ⟨by omega, by
        rw [hA, hst, if_pos (by assumption), if_neg]
        rintro ⟨k1, k2, k3⟩
        rcases hb with e | e
        · omega
        · exact e k2⟩, by omega, run_back [3, 4, 11, 12, 13] [3, 4] (by simp; exact Gives.mk) (by simp; exact Gives.mk) (by simp)⟩
    · rename_i b1 b2 b3
      rw [hA, hst, if_pos b1, if_pos ⟨by omega, b2.2, b3⟩, if_pos hb]
      (refine Zl hc (hr := ?_))
      simp
    · rename_i b1 b2 b3
      rw [hA, hst, if_pos b1, if_pos ⟨by omega, b2.2, b3⟩, if_neg hb]
      (refine Zl hc (hr := ?_))
      simp
    · exact ⟨j + 1, ⟨by omega, by
        rw [hA, hst, if_pos (by assumption), if_neg]
        rintro ⟨k1, k2, k3⟩
        rw [hb] at k3
        cases k3⟩, by omega, run_back [3, 4, 11, 12, 13] [3, 4] (by simp; exact Gives.mk) (by simp; exact Gives.mk) (by simp)⟩
    · rw [hA, hst, if_neg (by omega)]
      (refine Zl hc (hr := ?_))
      simp
  · have ho : o = false := by cases o with
      | false => rfl
      | true => exact absurd (hv rfl) hx
    subst ho
    repeat' (first | (first | refine Ya ?_ | refine Yb ?_ | refine Yc ?_ | refine Yd ?_ | refine Ye ?_ | refine Yf ?_ | refine Yg ?_ | refine Yh ?_ | refine Yi ?_ | refine Yj ?_ | refine Yk ?_ | refine Yl ?_ | refine Ym ?_ | refine Yn ?_ | refine Yo ?_ | refine Yp (h := ?_) | refine Yq ?_ | refine Yr ?_ | refine Ys ?_ | refine Zr hc (hk := ?_) | refine Zd hc (hk := ?_) | (refine Zc (ht := fun hb => ?_) (hf := fun hb => ?_) <;> (try simp at hb)) | fail) | (first | refine Zw hc (hf := by exact hat) (hk := ?_) | refine Zq hc (hf := by exact hat) (hk := ?_) | refine Zo hc (hk := ?_) | refine Zu hc (hk := ?_) | refine Ze hc (hk := ?_) | refine Zn hc (hk := ?_) | fail))
    all_goals try contradiction
    · exact ⟨j + 1, ⟨by omega, by
        rw [hA, hst, if_pos (by assumption), if_neg]
        rintro ⟨k1, k2, k3⟩
        cases k3⟩, by omega, run_back [3, 4, 11, 12, 13] [3, 4] (by simp; exact Gives.mk) (by simp; exact Gives.mk) (by simp)⟩
    · exact ⟨j + 1, ⟨by omega, by
        rw [hA, hst, if_pos (by assumption), if_neg]
        rintro ⟨k1, k2, k3⟩
        cases k3⟩, by omega, run_back [3, 4, 11, 12, 13] [3, 4] (by simp; exact Gives.mk) (by simp; exact Gives.mk) (by simp)⟩
    · rw [hA, hst, if_neg (by omega)]
      (refine Zl hc (hr := ?_))
      simp
theorem isStyle_ok (t : Tk) (hl : t.atts.length ≤ 200000) (hv : ∀ a ∈ t.atts, a.val.length ≤ 200000) : FnOk Tryz.prog 72 [.agg (encU t)] (tru (isStyB t.atts)) := by
  refine fnOk Tryz.func72 rfl (by kernel_rfl) Tryz.ntmps72 _ rfl (by simp) fun C hc => ?_
  have hat := pAttr_ok t wRel hl
  have hv2 : (atrAt t.atts wRel 0).2 = true → (atrAt t.atts wRel 0).1.val.length ≤ 200000 := fun h => hv _ (atrAt_mem _ _ _ h)
  unfold isStyB
  generalize atrAt t.atts wRel 0 = x at hat hv2 ⊢
  obtain ⟨x, o⟩ := x
  simp only at hat hv2 ⊢
  cases o with
  | false =>
    repeat' (first | (first | refine Ya ?_ | refine Yb ?_ | refine Yc ?_ | refine Yd ?_ | refine Ye ?_ | refine Yf ?_ | refine Yg ?_ | refine Yh ?_ | refine Yi ?_ | refine Yj ?_ | refine Yk ?_ | refine Yl ?_ | refine Ym ?_ | refine Yn ?_ | refine Yo ?_ | refine Yp (h := ?_) | refine Yq ?_ | refine Yr ?_ | refine Ys ?_ | refine Zr hc (hk := ?_) | refine Zd hc (hk := ?_) | (refine Zc (ht := fun hb => ?_) (hf := fun hb => ?_) <;> (try simp at hb)) | fail) | (first | refine Zw hc (hf := by exact hat) (hk := ?_) | refine Zq hc (hf := by exact hat) (hk := ?_) | refine Zo hc (hk := ?_) | refine Zu hc (hk := ?_) | refine Ze hc (hk := ?_) | refine Zn hc (hk := ?_) | fail))
    all_goals try contradiction
    (refine Zl hc (hr := ?_))
    simp
  | true =>
    have hxl := hv2 rfl
    have hSm := small_ok x.val (by omega)
    have hsl : (small x.val).length ≤ 200000 := by simpa using hxl
    have hF := fields_ok (small x.val) hsl
    have hwl := wordsB_len (small x.val)
    have hCo := containsK_ok (wordsB (small x.val)) wSheet (by omega)
    repeat' (first | (first | refine Ya ?_ | refine Yb ?_ | refine Yc ?_ | refine Yd ?_ | refine Ye ?_ | refine Yf ?_ | refine Yg ?_ | refine Yh ?_ | refine Yi ?_ | refine Yj ?_ | refine Yk ?_ | refine Yl ?_ | refine Ym ?_ | refine Yn ?_ | refine Yo ?_ | refine Yp (h := ?_) | refine Yq ?_ | refine Yr ?_ | refine Ys ?_ | refine Zr hc (hk := ?_) | refine Zd hc (hk := ?_) | (refine Zc (ht := fun hb => ?_) (hf := fun hb => ?_) <;> (try simp at hb)) | fail) | (first | refine Zw hc (hf := by first | exact hat | exact hSm | exact hF | exact hCo) (hk := ?_) | refine Zq hc (hf := by first | exact hat | exact hSm | exact hF | exact hCo) (hk := ?_) | refine Zo hc (hk := ?_) | refine Zu hc (hk := ?_) | refine Ze hc (hk := ?_) | refine Zn hc (hk := ?_) | fail))
    all_goals try contradiction
    (refine Zl hc (hr := ?_))
    simp
/-- The kinds ahead of the images; the others. -/
def kindG (n t : Bs) : Nat :=
  if (n = [115, 114, 99] ∧ t ∈ ([[105, 109, 103], [105, 110, 112, 117, 116], [115, 111, 117, 114, 99, 101], [118, 105, 100, 101, 111], [97, 117, 100, 105, 111]] : List Bs)) ∨ (n = [112, 111, 115, 116, 101, 114] ∧ t = [118, 105, 100, 101, 111]) then 3
  else if n = [115, 114, 99, 115, 101, 116] ∧ (t = [105, 109, 103] ∨ t = [115, 111, 117, 114, 99, 101]) then 4
  else if n = [115, 114, 99] ∧ t = [115, 99, 114, 105, 112, 116] then 6
  else if n = [115, 114, 99] ∧ (t = [102, 114, 97, 109, 101] ∨ t = [105, 102, 114, 97, 109, 101]) then 7
  else if n = [97, 99, 116, 105, 111, 110] ∧ t = [102, 111, 114, 109] then 8 else 0
theorem kindF_eq (st : Bool) (n t : Bs) : kindF st n t = if n = [115, 116, 121, 108, 101] then 9 else if n = [104, 114, 101, 102] ∧ t = [98, 97, 115, 101] then 1 else if n = [104, 114, 101, 102] ∧ (t = [97] ∨ t = [97, 114, 101, 97]) then 2 else if n = [104, 114, 101, 102] ∧ t = [108, 105, 110, 107] then (if st = true then 5 else 2) else kindG n t := rfl
theorem kindOf_ok (t : Tk) (n : Bs) (hS : FnOk Tryz.prog 72 [.agg (encU t)] (tru (isStyB t.atts))) : FnOk Tryz.prog 41 [.agg (encU t), str n] (int (kindB t n)) := by
  refine fnOk Tryz.func41 rfl (by kernel_rfl) Tryz.ntmps41 _ rfl (by simp) fun C hc => ?_
  have hc5 := sContains_ok [[105, 109, 103], [105, 110, 112, 117, 116], [115, 111, 117, 114, 99, 101], [118, 105, 100, 101, 111], [97, 117, 100, 105, 111]] t.name (by decide)
  unfold kindB
  rw [kindF_eq]
  generalize isStyB t.atts = st at hS ⊢
  repeat' (first | (first | refine Ya ?_ | refine Yb ?_ | refine Yc ?_ | refine Yd ?_ | refine Ye ?_ | refine Yf ?_ | refine Yg ?_ | refine Yh ?_ | refine Yi ?_ | refine Yj ?_ | refine Yk ?_ | refine Yl ?_ | refine Ym ?_ | refine Yn ?_ | refine Yo ?_ | refine Yp (h := ?_) | refine Yq ?_ | refine Yr ?_ | refine Ys ?_ | refine Zr hc (hk := ?_) | refine Zd hc (hk := ?_) | (refine Zc (ht := fun hb => ?_) (hf := fun hb => ?_) <;> (try simp at hb)) | fail) | (first | refine Zw hc (hf := by exact hS) (hk := ?_) | refine Zq hc (hf := by exact hS) (hk := ?_) | refine Zo hc (hk := ?_) | refine Zu hc (hk := ?_) | refine Ze hc (hk := ?_) | refine Zn hc (hk := ?_) | fail))
  · rw [if_pos hb]
    (refine Zl hc (hr := ?_))
    simp
  · rename_i b1
    rw [if_neg b1, if_pos hb]
    (refine Zl hc (hr := ?_))
    simp
  · rename_i b1 b2
    rw [if_neg b1, if_neg (fun h => b2 h.1 h.2), if_pos hb]
    (refine Zl hc (hr := ?_))
    simp
  · rename_i b1 b2 b3 b4
    rw [if_neg b1, if_neg (fun h => b2 h.1 h.2), if_neg (fun h => h.2.elim (b3 h.1).1 (b3 h.1).2), if_pos b4, if_pos hb]
    (refine Zl hc (hr := ?_))
    simp
  · rename_i b1 b2 b3 b4
    rw [if_neg b1, if_neg (fun h => b2 h.1 h.2), if_neg (fun h => h.2.elim (b3 h.1).1 (b3 h.1).2), if_pos b4, if_neg (by rw [hb]; decide)]
    (refine Zl hc (hr := ?_))
    simp
  · rename_i b1 b2 b3
    rw [if_neg b1, if_neg (fun h => b2 h.1 h.2), if_neg (fun h => h.2.elim (b3 h.1).1 (b3 h.1).2), if_neg (fun h => hb h.1 h.2)]
    unfold kindG
    by_cases hs : n = [115, 114, 99]
    · subst hs
      repeat' (first | (first | refine Ya ?_ | refine Yb ?_ | refine Yc ?_ | refine Yd ?_ | refine Ye ?_ | refine Yf ?_ | refine Yg ?_ | refine Yh ?_ | refine Yi ?_ | refine Yj ?_ | refine Yk ?_ | refine Yl ?_ | refine Ym ?_ | refine Yn ?_ | refine Yo ?_ | refine Yp (h := ?_) | refine Yq ?_ | refine Yr ?_ | refine Ys ?_ | refine Zr hc (hk := ?_) | refine Zd hc (hk := ?_) | (refine Zc (ht := fun hb => ?_) (hf := fun hb => ?_) <;> (try simp at hb)) | fail) | (first | refine Zw hc (hf := by exact hc5) (hk := ?_) | refine Zq hc (hf := by exact hc5) (hk := ?_) | refine Zo hc (hk := ?_) | refine Zu hc (hk := ?_) | refine Ze hc (hk := ?_) | refine Zn hc (hk := ?_) | fail))
      all_goals try contradiction
      all_goals (refine Zl hc (hr := ?_))
      all_goals simp_all
    · have hs2 : (n == [115, 114, 99]) = false := beq_false_of_ne hs
      repeat' (first | (first | refine ewp_seq ?_ | refine run_region hc (by simp [hs2]; exact Ends.go) (by first | exact True.intro | omega | assumption | (simp; done) | (simp; omega) | (simp at *; omega)) ?_ | refine run_draw hc (by kernel_rfl) (by kernel_rfl) (by simp [hs2]; exact Ends.go) (by first | exact True.intro | omega | assumption | (simp; done) | (simp; omega) | (simp at *; omega)) ?_ | refine ewp_scope ?_ | refine scopeQ_normal ?_ | refine scopeQ_ret ?_ | refine scopeQ_exit ?_ | refine ewp_skip ?_ | refine ewp_block ?_ | refine ewp_exit ?_ | refine ewp_label ?_ | refine thenQ_normal ?_ | refine thenQ_ret ?_ | refine thenQ_exit ?_ | refine blockQ_normal ?_ | refine blockQ_ret ?_ | refine blockQ_here ?_ | refine blockQ_there (by decide) ?_ | refine ewp_ret ?_ | refine opsW_nil ?_ | refine quietW_nil ?_ | (refine run_cond (by simp [hs2]; exact Gives.mk) (fun hb => ?_) (fun hb => ?_) <;> (try simp at hb)) | fail) | (first | refine run_skip hc (by simp [hs2]; exact Gives.mk) (by simp) ?_ | fail) | (first | refine run_callW hc (by simp [hs2]; exact Gives.mk) (by simp [hs2]; exact Gives.mk) (by simp [hs2]; exact Gives.mk) (by simp [hs2]; exact Gives.mk) (by simp [hs2]; exact Gives.mk) (fun _ => by first | exact trivial) (by simp) (by simp) ?_ | refine run_callQ hc (by simp [hs2]; exact Gives.mk) (by simp [hs2]; exact Gives.mk) (by simp [hs2]; exact Gives.mk) (by simp [hs2]; exact Gives.mk) (by simp [hs2]; exact Gives.mk) (fun _ => by first | exact trivial) (by simp) (by simp) ?_ | refine run_ops hc (by simp [hs2]; first | exact Ends.go | exact Ends.halt) (by decide) (by first | exact True.intro | omega | assumption | (simp; done) | (simp; omega) | (simp at *; omega)) ?_ | refine run_quiet hc (by simp [hs2]; first | exact Ends.go | exact Ends.halt) (by decide) (by first | exact True.intro | omega | assumption | (simp; done) | (simp; omega) | (simp at *; omega)) ?_ | refine run_regionW hc (by simp [hs2]; exact Ends.halt) (by first | exact True.intro | omega | assumption | (simp; done) | (simp; omega) | (simp at *; omega)) ?_ | refine run_drawN hc (by kernel_rfl) (by decide) (by kernel_rfl) (by simp [hs2]; exact Ends.halt) (by first | exact True.intro | omega | assumption | (simp; done) | (simp; omega) | (simp at *; omega)) ?_ | fail))
      all_goals try contradiction
      all_goals try ((refine Zl hc (hr := ?_)); simp_all; done)
      rename_i x5 x4 x3 x2 x1 x0
      rw [if_neg (fun h => h.elim (fun h => hs h.1) (fun h => x3 h.1 h.2)), if_neg (fun h => h.2.elim (x2 h.1).1 (x2 h.1).2), if_neg (fun h => hs h.1), if_neg (fun h => hs h.1), if_neg (fun h => hb h.1 h.2)]
      (refine Zl hc (hr := ?_))
      simp
theorem spans_ok (k : Nat) (v : Bs) (hk : k ≤ 9) (hv : v.length ≤ 200000) : FnOk Tryz.prog 43 [int k, str v] (spSl (spansF k v)) := by
  refine fnOk Tryz.func43 rfl (by kernel_rfl) Tryz.ntmps43 _ rfl (by simp) fun C hc => ?_
  have h1 := images_ok v hv
  have h2 := inStyle_ok v hv
  unfold spansF
  repeat' (first | (first | refine Ya ?_ | refine Yb ?_ | refine Yc ?_ | refine Yd ?_ | refine Ye ?_ | refine Yf ?_ | refine Yg ?_ | refine Yh ?_ | refine Yi ?_ | refine Yj ?_ | refine Yk ?_ | refine Yl ?_ | refine Ym ?_ | refine Yn ?_ | refine Yo ?_ | refine Yp (h := ?_) | refine Yq ?_ | refine Yr ?_ | refine Ys ?_ | refine Zr hc (hk := ?_) | refine Zd hc (hk := ?_) | (refine Zc (ht := fun hb => ?_) (hf := fun hb => ?_) <;> (try simp at hb)) | fail) | (first | refine Zw hc (hf := by first | exact h1 | exact h2) (hk := ?_) | refine Zq hc (hf := by first | exact h1 | exact h2) (hk := ?_) | refine Zo hc (hk := ?_) | refine Zu hc (hk := ?_) | refine Ze hc (hk := ?_) | refine Zn hc (hk := ?_) | fail))
  · rw [if_pos (by omega)]
    (refine Zl hc (hr := ?_))
    simp [imgs]
  · rw [if_neg (by omega), if_pos (by omega)]
    (refine Zl hc (hr := ?_))
    simp
  · rw [if_neg (by omega), if_neg (by omega)]
    (refine Zl hc (hr := ?_))
    simp only [resD, spSl, List.length_singleton]
    congr 1
    funext i
    cases i <;> simp
/-! The first attribute with a name. -/
def firstA (n : Nat) (L : List Atr) (p : Atr → Bool) (j : Nat) : Int := if j < n then (if p (L[j]?.getD .none) = true then (j : Int) else firstA n L p (j + 1)) else -1
termination_by n - j
theorem firstA_any (n : Nat) (L : List Atr) (p : Atr → Bool) (hn : n ≤ L.length) (j : Nat) : 0 ≤ firstA n L p j ↔ ((L.take n).drop j).any p = true := by
  rw [firstA]
  split
  · rename_i h
    have hl : j < (L.take n).length := by simp; omega
    rw [List.drop_eq_getElem_cons hl, List.any_cons]
    have hw : L[j]?.getD .none = (L.take n)[j] := by
      rw [List.getElem_take, List.getElem?_eq_getElem (by omega), Option.getD_some]
    rw [hw]
    split
    · rename_i hp
      rw [hp, Bool.true_or]
      exact ⟨fun _ => rfl, fun _ => Int.natCast_nonneg j⟩
    · rename_i hp
      rw [Bool.eq_false_iff.2 hp, Bool.false_or]
      exact firstA_any n L p hn (j + 1)
  · rename_i h
    rw [List.drop_of_length_le (by simp; omega)]
    simp
termination_by n - j
theorem idxFA_ok (n : Nat) (L : List Atr) (hl : n ≤ 200000) (g : FuncId) (caps : List D) (p : Atr → Bool) (hf : ∀ j, j < n → FnOk Tryz.prog g (.agg (encA (L[j]?.getD .none)) :: caps) (tru (p (L[j]?.getD .none)))) :
    FnOk Tryz.prog 111 [.sl n fun i => encA (L[i]?.getD .none), .clo (.func g) caps] (int (firstA n L p 0)) := by
  refine fnOk Tryz.func111 rfl (by kernel_rfl) Tryz.ntmps111 _ rfl (by simp) fun C hc => ?_
  repeat' (first | (first | refine Ya ?_ | refine Yb ?_ | refine Yc ?_ | refine Yd ?_ | refine Ye ?_ | refine Yf ?_ | refine Yg ?_ | refine Yh ?_ | refine Yi ?_ | refine Yj ?_ | refine Yk ?_ | refine Yl ?_ | refine Ym ?_ | refine Yn ?_ | refine Yo ?_ | refine Yp (h := ?_) | refine Yq ?_ | refine Yr ?_ | refine Ys ?_ | refine Zr hc (hk := ?_) | refine Zd hc (hk := ?_) | (refine Zc (ht := fun hb => ?_) (hf := fun hb => ?_) <;> (try simp at hb)) | fail) | (first | refine Zo hc (hk := ?_) | refine Zu hc (hk := ?_) | refine Ze hc (hk := ?_) | refine Zn hc (hk := ?_) | fail))
  refine ewp_loop (fun j : Nat => ⟨[(0, .d (.sl n fun i => encA (L[i]?.getD .none))), (1, .d (.clo (.func g) caps)), (7, .d (int n)), (8, .d (int j))], []⟩) (fun j => j ≤ n ∧ firstA n L p 0 = firstA n L p j) (fun j => n - j) 0 (by simp) (run_keep [0, 1, 7, 8] [] (by simp; exact Gives.mk) (by simp; exact Gives.mk)) ?_
  rintro j ⟨hj, hA⟩
  have hst : firstA n L p j = if j < n then (if p (L[j]?.getD .none) = true then (j : Int) else firstA n L p (j + 1)) else -1 := by rw [firstA]
  by_cases hlt : j < n
  · have hC := hf j hlt
    generalize p (L[j]?.getD .none) = b at hC hst
    repeat' (first | (first | refine Ya ?_ | refine Yb ?_ | refine Yc ?_ | refine Yd ?_ | refine Ye ?_ | refine Yf ?_ | refine Yg ?_ | refine Yh ?_ | refine Yi ?_ | refine Yj ?_ | refine Yk ?_ | refine Yl ?_ | refine Ym ?_ | refine Yn ?_ | refine Yo ?_ | refine Yp (h := ?_) | refine Yq ?_ | refine Yr ?_ | refine Ys ?_ | refine Zr hc (hk := ?_) | refine Zd hc (hk := ?_) | (refine Zc (ht := fun hb => ?_) (hf := fun hb => ?_) <;> (try simp at hb)) | fail) | (first | refine Zw hc (hf := by exact hC) (hk := ?_) | refine Zq hc (hf := by exact hC) (hk := ?_) | refine Zo hc (hk := ?_) | refine Zu hc (hk := ?_) | refine Ze hc (hk := ?_) | refine Zn hc (hk := ?_) | fail))
    all_goals try contradiction
    all_goals try (exfalso; omega)
    · rw [hA, hst, if_pos hlt, if_pos hb]
      (refine Zl hc (hr := ?_))
      simp
    · exact ⟨j + 1, ⟨by omega, by rw [hA, hst, if_pos hlt, if_neg (by simp [hb])]⟩, by omega, run_back [0, 1, 7, 8] [] (by simp; exact Gives.mk) (by simp; exact Gives.mk) (by simp)⟩
  · repeat' (first | (first | refine Ya ?_ | refine Yb ?_ | refine Yc ?_ | refine Yd ?_ | refine Ye ?_ | refine Yf ?_ | refine Yg ?_ | refine Yh ?_ | refine Yi ?_ | refine Yj ?_ | refine Yk ?_ | refine Yl ?_ | refine Ym ?_ | refine Yn ?_ | refine Yo ?_ | refine Yp (h := ?_) | refine Yq ?_ | refine Yr ?_ | refine Ys ?_ | refine Zr hc (hk := ?_) | refine Zd hc (hk := ?_) | (refine Zc (ht := fun hb => ?_) (hf := fun hb => ?_) <;> (try simp at hb)) | fail) | (first | refine Zo hc (hk := ?_) | refine Zu hc (hk := ?_) | refine Ze hc (hk := ?_) | refine Zn hc (hk := ?_) | fail))
    all_goals try contradiction
    all_goals try (exfalso; omega)
    rw [hA, hst, if_neg hlt]
    (refine Zl hc (hr := ?_))
    simp
theorem containsFA_ok (n : Nat) (L : List Atr) (hn : n ≤ L.length) (hl : n ≤ 200000) (g : FuncId) (caps : List D) (p : Atr → Bool) (hf : ∀ j, j < n → FnOk Tryz.prog g (.agg (encA (L[j]?.getD .none)) :: caps) (tru (p (L[j]?.getD .none)))) :
    FnOk Tryz.prog 74 [.sl n fun i => encA (L[i]?.getD .none), .clo (.func g) caps] (tru ((L.take n).any p)) := by
  refine fnOk Tryz.func74 rfl (by kernel_rfl) Tryz.ntmps74 _ rfl (by simp) fun C hc => ?_
  have hI := idxFA_ok n L hl g caps p hf
  have ha := firstA_any n L p hn 0
  rw [List.drop_zero] at ha
  generalize firstA n L p 0 = r at hI ha
  repeat' (first | (first | refine Ya ?_ | refine Yb ?_ | refine Yc ?_ | refine Yd ?_ | refine Ye ?_ | refine Yf ?_ | refine Yg ?_ | refine Yh ?_ | refine Yi ?_ | refine Yj ?_ | refine Yk ?_ | refine Yl ?_ | refine Ym ?_ | refine Yn ?_ | refine Yo ?_ | refine Yp (h := ?_) | refine Yq ?_ | refine Yr ?_ | refine Ys ?_ | refine Zr hc (hk := ?_) | refine Zd hc (hk := ?_) | (refine Zc (ht := fun hb => ?_) (hf := fun hb => ?_) <;> (try simp at hb)) | fail) | (first | refine Zw hc (hf := by exact hI) (hk := ?_) | refine Zq hc (hf := by exact hI) (hk := ?_) | refine Zo hc (hk := ?_) | refine Zu hc (hk := ?_) | refine Ze hc (hk := ?_) | refine Zn hc (hk := ?_) | fail))
  (refine Zl hc (hr := ?_))
  have e : decide (0 ≤ r) = (L.take n).any p := by rw [Bool.eq_iff_iff, decide_eq_true_iff]; exact ha
  rw [← e]
  rfl
theorem isFirstF_ok (x a : Atr) : FnOk Tryz.prog 75 [.agg (encA x), .ip (encA a) 0] (tru (decide (x.name = a.name))) := by
  refine fnOk Tryz.func75 rfl (by kernel_rfl) Tryz.ntmps75 _ rfl (by simp) fun C hc => ?_
  repeat' (first | (first | refine Ya ?_ | refine Yb ?_ | refine Yc ?_ | refine Yd ?_ | refine Ye ?_ | refine Yf ?_ | refine Yg ?_ | refine Yh ?_ | refine Yi ?_ | refine Yj ?_ | refine Yk ?_ | refine Yl ?_ | refine Ym ?_ | refine Yn ?_ | refine Yo ?_ | refine Yp (h := ?_) | refine Yq ?_ | refine Yr ?_ | refine Ys ?_ | refine Zr hc (hk := ?_) | refine Zd hc (hk := ?_) | (refine Zc (ht := fun hb => ?_) (hf := fun hb => ?_) <;> (try simp at hb)) | fail) | (first | refine Zo hc (hk := ?_) | refine Zu hc (hk := ?_) | refine Ze hc (hk := ?_) | refine Zn hc (hk := ?_) | fail))
  (refine Zl hc (hr := ?_))
  refine res_bool ?_
  rw [Bool.eq_iff_iff]; simp
theorem isFirst_ok (t : Tk) (i : Nat) (hl : t.atts.length ≤ 200000) (hi : i < t.atts.length) : FnOk Tryz.prog 42 [.agg (encU t), int i] (tru (firstB t.atts i)) := by
  refine fnOk Tryz.func42 rfl (by kernel_rfl) Tryz.ntmps42 _ rfl (by simp) fun C hc => ?_
  have hC := containsFA_ok i t.atts (by omega) (by omega) 75 [.ip (encA (t.atts[i]?.getD .none)) 0] (fun x => decide (x.name = (t.atts[i]?.getD .none).name)) fun j hj => isFirstF_ok _ _
  unfold firstB
  repeat' (first | (first | refine Ya ?_ | refine Yb ?_ | refine Yc ?_ | refine Yd ?_ | refine Ye ?_ | refine Yf ?_ | refine Yg ?_ | refine Yh ?_ | refine Yi ?_ | refine Yj ?_ | refine Yk ?_ | refine Yl ?_ | refine Ym ?_ | refine Yn ?_ | refine Yo ?_ | refine Yp (h := ?_) | refine Yq ?_ | refine Yr ?_ | refine Ys ?_ | refine Zr hc (hk := ?_) | refine Zd hc (hk := ?_) | (refine Zc (ht := fun hb => ?_) (hf := fun hb => ?_) <;> (try simp at hb)) | fail) | (first | refine Zw hc (hf := by exact hC) (hk := ?_) | refine Zq hc (hf := by exact hC) (hk := ?_) | refine Zo hc (hk := ?_) | refine Zu hc (hk := ?_) | refine Ze hc (hk := ?_) | refine Zn hc (hk := ?_) | fail))
  (refine Zl hc (hr := ?_))
  simp
theorem styleText_ok (m : List Tk) (i : Nat) (hm : m.length ≤ 20000) (hi : i < m.length) : FnOk Tryz.prog 40 [tokSu m, int i] (tru (styTx m i)) := by
  refine fnOk Tryz.func40 rfl (by kernel_rfl) Tryz.ntmps40 _ rfl (by simp) fun C hc => ?_
  by_cases h0 : 0 < i
  · have e : ((i : Int) - 1).toNat = i - 1 := by omega
    repeat' (first | (first | refine Ya ?_ | refine Yb ?_ | refine Yc ?_ | refine Yd ?_ | refine Ye ?_ | refine Yf ?_ | refine Yg ?_ | refine Yh ?_ | refine Yi ?_ | refine Yj ?_ | refine Yk ?_ | refine Yl ?_ | refine Ym ?_ | refine Yn ?_ | refine Yo ?_ | refine Yp (h := ?_) | refine Yq ?_ | refine Yr ?_ | refine Ys ?_ | refine Zr hc (hk := ?_) | refine Zd hc (hk := ?_) | (refine Zc (ht := fun hb => ?_) (hf := fun hb => ?_) <;> (try simp at hb)) | fail) | (first | refine Zo hc (hk := ?_) | refine Zu hc (hk := ?_) | refine Ze hc (hk := ?_) | refine Zn hc (hk := ?_) | fail))
    (refine Zl hc (hr := ?_))
    refine res_bool ?_
    have hd : ((m[i - 1]?.getD .none).name == [115, 116, 121, 108, 101]) = decide ((m[i - 1]?.getD .none).name = wStyle) := by
      by_cases hn : (m[i - 1]?.getD .none).name = wStyle
      · rw [decide_eq_true hn, hn]; rfl
      · rw [decide_eq_false hn]; exact beq_false_of_ne hn
    unfold styTx
    rw [hd]
    generalize decide ((m[i - 1]?.getD .none).name = wStyle) = d
    rw [Bool.eq_iff_iff]
    cases d <;> simp [h0] <;> omega
  · obtain rfl : i = 0 := by omega
    repeat' (first | (first | refine Ya ?_ | refine Yb ?_ | refine Yc ?_ | refine Yd ?_ | refine Ye ?_ | refine Yf ?_ | refine Yg ?_ | refine Yh ?_ | refine Yi ?_ | refine Yj ?_ | refine Yk ?_ | refine Yl ?_ | refine Ym ?_ | refine Yn ?_ | refine Yo ?_ | refine Yp (h := ?_) | refine Yq ?_ | refine Yr ?_ | refine Ys ?_ | refine Zr hc (hk := ?_) | refine Zd hc (hk := ?_) | (refine Zc (ht := fun hb => ?_) (hf := fun hb => ?_) <;> (try simp at hb)) | fail) | (first | refine Zo hc (hk := ?_) | refine Zu hc (hk := ?_) | refine Ze hc (hk := ?_) | refine Zn hc (hk := ?_) | fail))
    (refine Zl hc (hr := ?_))
    refine res_bool ?_
    rw [Bool.eq_iff_iff]; simp [styTx]
end Go.Proofs.YtjbabjfmcganpaaGreatDoor
