/-
  PAGE: found, Links; where links stand. (WITH run_drawN.)
-/
import Derived.Test.YtjbabjfmcganpaaGreatDoorLkE
import Derived.Test.YtjbabjfmcganpaaGreatDoorAdH
set_option linter.unusedSimpArgs false
set_option linter.unusedVariables false
namespace Go.Proofs.YtjbabjfmcganpaaGreatDoor
open Go.Lw Go.RowKit
set_option maxRecDepth 100000
set_option maxHeartbeats 1000000

theorem side_mem {m : List Tk} {a b : Nat} (h : Side m a b) : ∀ t ∈ m, Fit t ∧ (t.kind ≠ 2 → t.atts = []) ∧ t.atts.length ≤ 200000 := by
  induction m generalizing a with
  | nil => intro t ht; cases ht
  | cons t m ih =>
    intro x hx
    cases hx with
    | head => exact ⟨h.2.2.1, h.2.2.2.1.1, h.2.2.2.1.2⟩
    | tail _ hx => exact ih h.2.2.2.2 x hx
theorem get_all {m : List Tk} {P : Tk → Prop} (h0 : P .none) (h : ∀ t ∈ m, P t) (i : Nat) : P (m[i]?.getD .none) := by
  by_cases hi : i < m.length
  · rw [List.getElem?_eq_getElem hi]
    exact h _ (List.getElem_mem hi)
  · rw [List.getElem?_eq_none (by omega)]
    exact h0
theorem run_tkIn (p : Bs) (h : p.length ≤ 200000 ∧ (run p 0 0 []).length ≤ 20000) : TkIn p (run p 0 0 []) := by
  have hS := run_side p h.1 p.length 0 0 [] (by omega) (Nat.le_refl _) (by omega) rfl h.2
  have hM := side_mem hS
  have hT := runIn_ok p
  refine ⟨h.1, ⟨h.2, get_all (P := fun t => t.atts.length ≤ 200000) (by simp) (fun t ht => (hM t ht).2.2), get_all (P := fun t => ∀ a ∈ t.atts, a.val.length ≤ 200000) (fun a ha => by cases ha) fun t ht a ha => ?_⟩, fun i hi => ?_, get_all (P := fun t => t.kind ≠ 2 → t.atts = []) (fun _ => rfl) fun t ht => (hM t ht).2.1⟩
  · have hv := (hT t ht).val a ha
    by_cases hh : a.has = true
    · rw [hv.1 hh]
      have := meant_len ((p.take a.til).drop a.fr)
      simp only [List.length_drop, List.length_take] at this
      omega
    · rw [hv.2 (Bool.eq_false_iff.2 hh)]
      simp
  · have := (side_get hS).2 i hi
    omega
theorem checkedV_ok (l : Bs) (hm : l.length ≤ maxLen) : FnOk Tryz.prog 22 [byS l] (if l.length ≤ 200000 ∧ (run l 0 0 []).length ≤ 20000 then .tup [tokSu (run l 0 0 []), int 0] else .tup [nilSl, int 2]) := by
  have hC := checked_ok l hm
  by_cases h : l.length ≤ 200000 ∧ (run l 0 0 []).length ≤ 20000
  · have hS := run_side l h.1 l.length 0 0 [] (by omega) (Nat.le_refl _) (by omega) rfl h.2
    rw [if_pos h] at hC ⊢
    refine FnOk.weak (res := .tup [tokSl (run l 0 0 []), int 0]) hC (weak_tup rfl fun k d hd => ?_)
    match k, hd with
    | 0, hd => cases hd; exact ⟨_, rfl, weak_tok hS.plain⟩
    | 1, hd => cases hd; exact ⟨_, rfl, Weak.refl _⟩
  · rw [if_neg h] at hC ⊢
    exact hC
/-- What stands in the way of finding links. -/
def fdE (p : Bs) (a : Adr) : Nat := if ¬ (p.length ≤ 200000 ∧ (run p 0 0 []).length ≤ 20000) then 2 else if chkC a ≠ 0 then chkC a else if 5000 < (linksR p a (run p 0 0 [])).length then 2 else 0
theorem fdE_zero {p : Bs} {a : Adr} (h : fdE p a = 0) : (p.length ≤ 200000 ∧ (run p 0 0 []).length ≤ 20000) ∧ chkC a = 0 ∧ (linksR p a (run p 0 0 [])).length ≤ 5000 := by
  unfold fdE at h
  split at h
  · cases h
  · rename_i h1
    split at h
    · rename_i h2; exact absurd h h2
    · rename_i h2
      split at h
      · cases h
      · rename_i h3
        exact ⟨Classical.not_not.1 h1, Classical.not_not.1 h2, by omega⟩
theorem found_ok (p : Bs) (a : Adr) (hm : p.length ≤ maxLen) (ha : a.Fits) : FnOk Tryz.prog 12 [byS p, adrD a] (if fdE p a = 0 then .tup [tokSu (run p 0 0 []), lnkSl (linksR p a (run p 0 0 [])), int 0] else .tup [nilSl, nilSl, int (fdE p a)]) := by
  have hC := checkedV_ok p hm
  refine fnOk Tryz.func12 rfl (by kernel_rfl) Tryz.ntmps12 _ rfl (by simp) fun C hc => ?_
  have hA := check_ok a ha
  unfold maxLen at hm
  unfold fdE
  by_cases h : p.length ≤ 200000 ∧ (run p 0 0 []).length ≤ 20000
  rotate_left
  · rw [if_neg h] at hC
    rw [if_pos h, if_neg (by decide)]
    repeat' (first | (first | refine Ya ?_ | refine Yb ?_ | refine Yc ?_ | refine Yd ?_ | refine Ye ?_ | refine Yf ?_ | refine Yg ?_ | refine Yh ?_ | refine Yi ?_ | refine Yj ?_ | refine Yk ?_ | refine Yl ?_ | refine Ym ?_ | refine Yn ?_ | refine Yo ?_ | refine Yp (h := ?_) | refine Yq ?_ | refine Yr ?_ | refine Ys ?_ | refine Zr hc (hk := ?_) | refine Zd hc (hk := ?_) | (refine Zc (ht := fun hb => ?_) (hf := fun hb => ?_) <;> (try simp at hb)) | fail) | (first | refine Zw hc (hf := by exact hC) (hk := ?_) | refine Zq hc (hf := by exact hC) (hk := ?_) | refine Zo hc (hk := ?_) | refine Zu hc (hk := ?_) | refine Ze hc (hk := ?_) | refine Zn hc (hk := ?_) | fail))
    all_goals try contradiction
    (refine Zl hc (hr := ?_))
    simp
  have hT := run_tkIn p h
  have hL := links_ok p (run p 0 0 []) a ha hT
  rw [if_pos h] at hC
  rw [if_neg (show ¬ ¬ (p.length ≤ 200000 ∧ (run p 0 0 []).length ≤ 20000) from fun e => e h)]
  by_cases h0 : chkC a = 0
  rotate_left
  · rw [if_pos h0, if_neg h0]
    repeat' (first | (first | refine Ya ?_ | refine Yb ?_ | refine Yc ?_ | refine Yd ?_ | refine Ye ?_ | refine Yf ?_ | refine Yg ?_ | refine Yh ?_ | refine Yi ?_ | refine Yj ?_ | refine Yk ?_ | refine Yl ?_ | refine Ym ?_ | refine Yn ?_ | refine Yo ?_ | refine Yp (h := ?_) | refine Yq ?_ | refine Yr ?_ | refine Ys ?_ | refine Zr hc (hk := ?_) | refine Zd hc (hk := ?_) | (refine Zc (ht := fun hb => ?_) (hf := fun hb => ?_) <;> (try simp at hb)) | fail) | (first | refine Zw hc (hf := by first | exact hC | exact hA) (hk := ?_) | refine Zq hc (hf := by first | exact hC | exact hA) (hk := ?_) | refine Zo hc (hk := ?_) | refine Zu hc (hk := ?_) | refine Ze hc (hk := ?_) | refine Zn hc (hk := ?_) | fail))
    all_goals try contradiction
    (refine Zl hc (hr := ?_))
    simp
  rw [if_neg (show ¬ chkC a ≠ 0 from fun e => e h0)]
  rw [h0] at hA
  generalize linksR p a (run p 0 0 []) = L at hL ⊢
  have hlen := hT.fit.len
  generalize run p 0 0 [] = m at hC hL hlen ⊢
  repeat' (first | (first | refine Ya ?_ | refine Yb ?_ | refine Yc ?_ | refine Yd ?_ | refine Ye ?_ | refine Yf ?_ | refine Yg ?_ | refine Yh ?_ | refine Yi ?_ | refine Yj ?_ | refine Yk ?_ | refine Yl ?_ | refine Ym ?_ | refine Yn ?_ | refine Yo ?_ | refine Yp (h := ?_) | refine Yq ?_ | refine Yr ?_ | refine Ys ?_ | refine Zr hc (hk := ?_) | refine Zd hc (hk := ?_) | (refine Zc (ht := fun hb => ?_) (hf := fun hb => ?_) <;> (try simp at hb)) | fail) | (first | refine Zw hc (hf := by first | exact hC | exact hA | exact hL) (hk := ?_) | refine Zq hc (hf := by first | exact hC | exact hA | exact hL) (hk := ?_) | refine Zo hc (hk := ?_) | refine Zu hc (hk := ?_) | refine Ze hc (hk := ?_) | refine Zn hc (hk := ?_) | fail))
  all_goals try contradiction
  all_goals try (exfalso; omega)
  · rw [if_pos (show 5000 < L.length by omega), if_neg (by decide)]
    (refine Zl hc (hr := ?_))
    simp
  · rw [if_neg (show ¬ 5000 < L.length by omega), if_pos rfl]
    (refine Zl hc (hr := ?_))
    simp
theorem linksF_ok (p : Bs) (a : Adr) (hm : p.length ≤ maxLen) (ha : a.Fits) : FnOk Tryz.prog 5 [byS p, adrD a] (if fdE p a = 0 then .tup [lnkSl (linksR p a (run p 0 0 [])), int 0] else .tup [nilSl, int (fdE p a)]) := by
  have hF := found_ok p a hm ha
  refine fnOk Tryz.func5 rfl (by kernel_rfl) Tryz.ntmps5 _ rfl (by simp) fun C hc => ?_
  by_cases h : fdE p a = 0
  · rw [if_pos h] at hF ⊢
    repeat' (first | (first | refine Ya ?_ | refine Yb ?_ | refine Yc ?_ | refine Yd ?_ | refine Ye ?_ | refine Yf ?_ | refine Yg ?_ | refine Yh ?_ | refine Yi ?_ | refine Yj ?_ | refine Yk ?_ | refine Yl ?_ | refine Ym ?_ | refine Yn ?_ | refine Yo ?_ | refine Yp (h := ?_) | refine Yq ?_ | refine Yr ?_ | refine Ys ?_ | refine Zr hc (hk := ?_) | refine Zd hc (hk := ?_) | (refine Zc (ht := fun hb => ?_) (hf := fun hb => ?_) <;> (try simp at hb)) | fail) | (first | refine Zw hc (hf := by exact hF) (hk := ?_) | refine Zq hc (hf := by exact hF) (hk := ?_) | refine Zo hc (hk := ?_) | refine Zu hc (hk := ?_) | refine Ze hc (hk := ?_) | refine Zn hc (hk := ?_) | fail))
    (refine Zl hc (hr := ?_))
    simp
  · rw [if_neg h] at hF ⊢
    repeat' (first | (first | refine Ya ?_ | refine Yb ?_ | refine Yc ?_ | refine Yd ?_ | refine Ye ?_ | refine Yf ?_ | refine Yg ?_ | refine Yh ?_ | refine Yi ?_ | refine Yj ?_ | refine Yk ?_ | refine Yl ?_ | refine Ym ?_ | refine Yn ?_ | refine Yo ?_ | refine Yp (h := ?_) | refine Yq ?_ | refine Yr ?_ | refine Ys ?_ | refine Zr hc (hk := ?_) | refine Zd hc (hk := ?_) | (refine Zc (ht := fun hb => ?_) (hf := fun hb => ?_) <;> (try simp at hb)) | fail) | (first | refine Zw hc (hf := by exact hF) (hk := ?_) | refine Zq hc (hf := by exact hF) (hk := ?_) | refine Zo hc (hk := ?_) | refine Zu hc (hk := ?_) | refine Ze hc (hk := ?_) | refine Zn hc (hk := ?_) | fail))
    (refine Zl hc (hr := ?_))
    simp
/-- What is said of a link that stands in a page. -/
structure Stand (p : Bs) (x : Lnk) : Prop where
  le : x.fr ≤ x.til
  til : x.til ≤ p.length
  text : x.kind ≠ 4 → x.kind ≠ 9 → meant (cutB p (x.fr, x.til)) = x.text
theorem addL_at (a b : Adr) (k : Nat) (text : Bs) (fr til : Nat) : (addL a b k text fr til).kind = k ∧ (addL a b k text fr til).text = text ∧ (addL a b k text fr til).fr = fr ∧ (addL a b k text fr til).til = til := by
  unfold addL
  (repeat' split) <;> exact ⟨rfl, rfl, rfl, rfl⟩
theorem stand_add {p : Bs} (a b : Adr) {k : Nat} {text : Bs} {fr til : Nat} (h1 : fr ≤ til) (h2 : til ≤ p.length) (h3 : k ≠ 4 → k ≠ 9 → meant (cutB p (fr, til)) = text) : Stand p (addL a b k text fr til) := by
  obtain ⟨e1, e2, e3, e4⟩ := addL_at a b k text fr til
  exact ⟨by rw [e3, e4]; exact h1, by rw [e4]; exact h2, by rw [e1, e2, e3, e4]; exact h3⟩
theorem Ord.mem {r : List (Nat × Nat)} {a b : Nat} (h : Ord r a b) {x : Nat × Nat} (hx : x ∈ r) : a ≤ x.1 ∧ x.1 ≤ x.2 ∧ x.2 ≤ b := by
  obtain ⟨i, hi, rfl⟩ := List.getElem_of_mem hx
  have := h.get i hi
  rw [List.getElem?_eq_getElem hi] at this
  exact this
theorem atts_stand {p : Bs} (a b : Adr) {t : Tk} (hf : Fit t) (hv : ∀ x ∈ t.atts, ValA p x) (ht : t.til ≤ p.length) : ∀ k, k ≤ t.atts.length → ∀ x ∈ attsLs a b t k, Stand p x
  | 0, _, x, hx => by cases hx
  | k + 1, hk, x, hx => by
    rcases List.mem_append.1 (show x ∈ attsLs a b t k ++ attLs a b t k from hx) with h | h
    · exact atts_stand a b hf hv ht k (by omega) x h
    · have hm : (t.atts[k]?.getD Atr.none) ∈ t.atts := by rw [List.getElem?_eq_getElem (by omega)]; exact List.getElem_mem (by omega)
      have h1 := hf _ hm
      have h2 := hv _ hm
      unfold attLs at h
      split at h
      · rename_i hl
        have hh : (t.atts[k]?.getD Atr.none).has = true := by
          unfold hasL firstB at hl
          simp only [Bool.and_eq_true] at hl
          exact hl.2.1
        obtain ⟨y, hy, rfl⟩ := List.mem_map.1 h
        refine stand_add a b (by omega) (by omega) fun k4 k9 => ?_
        unfold spansF at hy
        rw [if_neg k4, if_neg k9] at hy
        cases List.mem_singleton.1 hy
        have h3 := h2.1 hh
        unfold cutB
        simp only [List.take_length, List.drop_zero]
        exact h3.symm
      · cases h
theorem all_stand {p : Bs} (a b : Adr) {m : List Tk} (hm : ∀ t ∈ m, Fit t ∧ (∀ x ∈ t.atts, ValA p x) ∧ t.fr ≤ t.til ∧ t.til ≤ p.length) : ∀ n, n ≤ m.length → ∀ x ∈ allLs p a b m n, Stand p x
  | 0, _, x, hx => by cases hx
  | n + 1, hn, x, hx => by
    rcases List.mem_append.1 (show x ∈ allLs p a b m n ++ tokLs p a b m n from hx) with h | h
    · exact all_stand a b hm n (by omega) x h
    · have ht : (m[n]?.getD Tk.none) ∈ m := by rw [List.getElem?_eq_getElem (by omega)]; exact List.getElem_mem (by omega)
      obtain ⟨h1, h2, h3, h4⟩ := hm _ ht
      rcases List.mem_append.1 (show x ∈ styLs p a b m n ++ attsLs a b (m[n]?.getD .none) (m[n]?.getD .none).atts.length from h) with h | h
      · unfold styLs at h
        split at h
        · obtain ⟨y, hy, rfl⟩ := List.mem_map.1 h
          have := (inS_ord _ 0 (Nat.zero_le _)).mem hy
          have hl : (cutB p ((m[n]?.getD Tk.none).fr, (m[n]?.getD Tk.none).til)).length = (m[n]?.getD Tk.none).til - (m[n]?.getD Tk.none).fr := by simp [cutB]; omega
          exact stand_add a b (by omega) (by omega) fun _ h9 => absurd rfl h9
        · cases h
      · exact atts_stand a b h1 h2 h4 _ (Nat.le_refl _) x h
theorem links_stand (p : Bs) (a : Adr) (h : p.length ≤ 200000 ∧ (run p 0 0 []).length ≤ 20000) : ∀ x ∈ linksR p a (run p 0 0 []), Stand p x := by
  have hS := run_side p h.1 p.length 0 0 [] (by omega) (Nat.le_refl _) (by omega) rfl h.2
  have hM := side_mem hS
  have hT := runIn_ok p
  have hI := (run_tkIn p h).ins
  refine all_stand a _ (fun t ht => ?_) _ (stopAt_le p a _ _ 0 (Nat.zero_le _)).2.1
  obtain ⟨i, hi, rfl⟩ := List.getElem_of_mem ht
  have := hI i hi
  rw [List.getElem?_eq_getElem hi] at this
  exact ⟨(hM _ ht).1, (hT _ ht).val, this.1, this.2⟩
theorem style_stand (p : Bs) (a : Adr) : ∀ x ∈ styR p a, x.fr ≤ x.til ∧ x.til ≤ p.length ∧ cutB p (x.fr, x.til) = x.text := by
  intro x hx
  obtain ⟨y, hy, rfl⟩ := List.mem_map.1 hx
  have := (inS_ord _ 0 (Nat.zero_le _)).mem hy
  obtain ⟨e1, e2, e3, e4⟩ := addL_at a a 9 (cutB p y) y.1 y.2
  exact ⟨by rw [e3, e4]; omega, by rw [e4]; omega, by rw [e2, e3, e4]⟩
end Go.Proofs.YtjbabjfmcganpaaGreatDoor
/-
  PAGE: the statement PageLinksStand, walked. (WITH run_drawN.)
-/
set_option linter.unusedSimpArgs false
set_option linter.unusedVariables false
namespace Go.Proofs.YtjbabjfmcganpaaGreatDoor
open Go.Lw Go.RowKit
set_option maxRecDepth 100000
set_option maxHeartbeats 1000000

def subK (l : Bs) (a b : Nat) : Bs := (List.range (b - a)).map fun i => l[a + i]?.getD 0
@[simp] theorem fold_subK (l : Bs) (a b : Nat) : List.map (fun i => l[a + i]?.getD 0) (List.range (b - a)) = subK l a b := rfl
theorem subK_len (l : Bs) (a b : Nat) : (subK l a b).length = b - a := by unfold subK; rw [List.length_map, List.length_range]
theorem subK_eq (l : Bs) (a b : Nat) (h : b ≤ l.length) : subK l a b = cutB l (a, b) := by
  apply List.ext_getElem?
  intro i
  unfold subK cutB
  by_cases hi : i < b - a
  · rw [List.getElem?_map, List.getElem?_range hi, List.getElem?_drop, List.getElem?_take, if_pos (by simp only; omega), List.getElem?_eq_getElem (by omega)]
    simp [List.getElem?_eq_getElem (show a + i < l.length by omega)]
  · rw [List.getElem?_eq_none (by rw [List.length_map, List.length_range]; omega), List.getElem?_eq_none (by simp; omega)]
theorem standLaw_ok (p : Bs) (a : Adr) (hm : p.length ≤ maxLen) (ha : a.Fits) : FnOk Tryz.prog 3 [byS p, adrD a] (tru true) := by
  have hL := linksF_ok p a hm ha
  have hS := styleLinks_ok p a hm ha
  refine fnOk Tryz.func3 rfl (by kernel_rfl) Tryz.ntmps3 _ rfl (by simp) fun C hc => ?_
  unfold maxLen at hm
  by_cases h : fdE p a = 0
  rotate_left
  · rw [if_neg h] at hL
    repeat' (first | (first | refine Ya ?_ | refine Yb ?_ | refine Yc ?_ | refine Yd ?_ | refine Ye ?_ | refine Yf ?_ | refine Yg ?_ | refine Yh ?_ | refine Yi ?_ | refine Yj ?_ | refine Yk ?_ | refine Yl ?_ | refine Ym ?_ | refine Yn ?_ | refine Yo ?_ | refine Yp (h := ?_) | refine Yq ?_ | refine Yr ?_ | refine Ys ?_ | refine Zr hc (hk := ?_) | refine Zd hc (hk := ?_) | (refine Zc (ht := fun hb => ?_) (hf := fun hb => ?_) <;> (try simp at hb)) | fail) | (first | refine Zw hc (hf := by first | exact hL | exact awake3_ok) (hk := ?_) | refine Zq hc (hf := by first | exact hL | exact awake3_ok) (hk := ?_) | refine Zo hc (hk := ?_) | refine Zu hc (hk := ?_) | refine Ze hc (hk := ?_) | refine Zn hc (hk := ?_) | fail))
    all_goals try contradiction
    (refine Zl hc (hr := ?_))
    simp
  rw [if_pos h] at hL
  obtain ⟨h1, h2, h3⟩ := fdE_zero h
  have hst := links_stand p a h1
  generalize linksR p a (run p 0 0 []) = R at hL hst h3
  repeat' (first | (first | refine Ya ?_ | refine Yb ?_ | refine Yc ?_ | refine Yd ?_ | refine Ye ?_ | refine Yf ?_ | refine Yg ?_ | refine Yh ?_ | refine Yi ?_ | refine Yj ?_ | refine Yk ?_ | refine Yl ?_ | refine Ym ?_ | refine Yn ?_ | refine Yo ?_ | refine Yp (h := ?_) | refine Yq ?_ | refine Yr ?_ | refine Ys ?_ | refine Zr hc (hk := ?_) | refine Zd hc (hk := ?_) | (refine Zc (ht := fun hb => ?_) (hf := fun hb => ?_) <;> (try simp at hb)) | fail) | (first | refine Zw hc (hf := by first | exact hL | exact awake3_ok) (hk := ?_) | refine Zq hc (hf := by first | exact hL | exact awake3_ok) (hk := ?_) | refine Zo hc (hk := ?_) | refine Zu hc (hk := ?_) | refine Ze hc (hk := ?_) | refine Zn hc (hk := ?_) | fail))
  all_goals try contradiction
  refine ewp_loop (fun i : Nat => ⟨[(0, .d (byS p)), (3, .bp 3 0), (5, .d (lnkSl R)), (7, .d (int i))], [(3, .box 24 ((adrL a).map V.d))]⟩) (fun i => i ≤ R.length) (fun i => R.length - i) 0 (by simp) (run_keep [0, 3, 5, 7] [3] (by simp; exact Gives.mk) (by simp; exact Gives.mk)) ?_
  intro i hi
  by_cases hlt : i < R.length
  · obtain ⟨k1, k2, k3⟩ := hst (R[i]?.getD Lnk.none) (by rw [List.getElem?_eq_getElem hlt]; exact List.getElem_mem hlt)
    by_cases hk : (R[i]?.getD Lnk.none).kind = 4 ∨ (R[i]?.getD Lnk.none).kind = 9
    · repeat' (first | (first | refine Ya ?_ | refine Yb ?_ | refine Yc ?_ | refine Yd ?_ | refine Ye ?_ | refine Yf ?_ | refine Yg ?_ | refine Yh ?_ | refine Yi ?_ | refine Yj ?_ | refine Yk ?_ | refine Yl ?_ | refine Ym ?_ | refine Yn ?_ | refine Yo ?_ | refine Yp (h := ?_) | refine Yq ?_ | refine Yr ?_ | refine Ys ?_ | refine Zr hc (hk := ?_) | refine Zd hc (hk := ?_) | (refine Zc (ht := fun hb => ?_) (hf := fun hb => ?_) <;> (try simp at hb)) | fail) | (first | refine Zo hc (hk := ?_) | refine Zu hc (hk := ?_) | refine Ze hc (hk := ?_) | refine Zn hc (hk := ?_) | fail))
      all_goals try (exfalso; omega)
      exact ⟨i + 1, by omega, by omega, run_back [0, 3, 5, 7] [3] (by simp; exact Gives.mk) (by simp; exact Gives.mk) (by simp)⟩
    · have hM := meantF_ok (subK p (R[i]?.getD Lnk.none).fr (R[i]?.getD Lnk.none).til) (by rw [subK_len]; omega)
      rw [if_pos (by rw [subK_len]; omega), subK_eq p _ _ k2, k3 (fun e => hk (.inl e)) (fun e => hk (.inr e)), ← subK_eq p _ _ k2] at hM
      repeat' (first | (first | refine Ya ?_ | refine Yb ?_ | refine Yc ?_ | refine Yd ?_ | refine Ye ?_ | refine Yf ?_ | refine Yg ?_ | refine Yh ?_ | refine Yi ?_ | refine Yj ?_ | refine Yk ?_ | refine Yl ?_ | refine Ym ?_ | refine Yn ?_ | refine Yo ?_ | refine Yp (h := ?_) | refine Yq ?_ | refine Yr ?_ | refine Ys ?_ | refine Zr hc (hk := ?_) | refine Zd hc (hk := ?_) | (refine Zc (ht := fun hb => ?_) (hf := fun hb => ?_) <;> (try simp at hb)) | fail) | (first | refine Zw hc (hf := by exact hM) (hk := ?_) | refine Zq hc (hf := by exact hM) (hk := ?_) | refine Zo hc (hk := ?_) | refine Zu hc (hk := ?_) | refine Ze hc (hk := ?_) | refine Zn hc (hk := ?_) | fail))
      all_goals try contradiction
      all_goals try (exfalso; omega)
      exact ⟨i + 1, by omega, by omega, run_back [0, 3, 5, 7] [3] (by simp; exact Gives.mk) (by simp; exact Gives.mk) (by simp)⟩
  · by_cases h5 : stE p a = 0
    rotate_left
    · rw [if_neg h5] at hS
      repeat' (first | (first | refine Ya ?_ | refine Yb ?_ | refine Yc ?_ | refine Yd ?_ | refine Ye ?_ | refine Yf ?_ | refine Yg ?_ | refine Yh ?_ | refine Yi ?_ | refine Yj ?_ | refine Yk ?_ | refine Yl ?_ | refine Ym ?_ | refine Yn ?_ | refine Yo ?_ | refine Yp (h := ?_) | refine Yq ?_ | refine Yr ?_ | refine Ys ?_ | refine Zr hc (hk := ?_) | refine Zd hc (hk := ?_) | (refine Zc (ht := fun hb => ?_) (hf := fun hb => ?_) <;> (try simp at hb)) | fail) | (first | refine Zw hc (hf := by first | exact hS | exact awake3_ok) (hk := ?_) | refine Zq hc (hf := by first | exact hS | exact awake3_ok) (hk := ?_) | refine Zo hc (hk := ?_) | refine Zu hc (hk := ?_) | refine Ze hc (hk := ?_) | refine Zn hc (hk := ?_) | fail))
      all_goals try contradiction
      all_goals try (exfalso; omega)
      (refine Zl hc (hr := ?_))
      simp
    rw [if_pos h5] at hS
    have hsd := style_stand p a
    have hql : (styR p a).length ≤ 5000 := by
      have : (styR p a).length = (inS p 0).length := by simp [styR]
      unfold stE at h5
      rw [if_neg (by omega), if_neg (fun e => e h2)] at h5
      split at h5
      · cases h5
      · omega
    generalize styR p a = Q at hS hsd hql
    repeat' (first | (first | refine Ya ?_ | refine Yb ?_ | refine Yc ?_ | refine Yd ?_ | refine Ye ?_ | refine Yf ?_ | refine Yg ?_ | refine Yh ?_ | refine Yi ?_ | refine Yj ?_ | refine Yk ?_ | refine Yl ?_ | refine Ym ?_ | refine Yn ?_ | refine Yo ?_ | refine Yp (h := ?_) | refine Yq ?_ | refine Yr ?_ | refine Ys ?_ | refine Zr hc (hk := ?_) | refine Zd hc (hk := ?_) | (refine Zc (ht := fun hb => ?_) (hf := fun hb => ?_) <;> (try simp at hb)) | fail) | (first | refine Zw hc (hf := by first | exact hS | exact awake3_ok) (hk := ?_) | refine Zq hc (hf := by first | exact hS | exact awake3_ok) (hk := ?_) | refine Zo hc (hk := ?_) | refine Zu hc (hk := ?_) | refine Ze hc (hk := ?_) | refine Zn hc (hk := ?_) | fail))
    all_goals try contradiction
    all_goals try (exfalso; omega)
    refine ewp_loop (fun i : Nat => ⟨[(0, .d (byS p)), (11, .d (lnkSl Q)), (12, .d (int i))], []⟩) (fun i => i ≤ Q.length) (fun i => Q.length - i) 0 (by simp) (run_keep [0, 11, 12] [] (by simp; exact Gives.mk) (by simp; exact Gives.mk)) ?_
    intro j hj
    by_cases hjt : j < Q.length
    · obtain ⟨k1, k2, k3⟩ := hsd (Q[j]?.getD Lnk.none) (by rw [List.getElem?_eq_getElem hjt]; exact List.getElem_mem hjt)
      have he := (subK_eq p _ _ k2).trans k3
      repeat' (first | (first | refine Ya ?_ | refine Yb ?_ | refine Yc ?_ | refine Yd ?_ | refine Ye ?_ | refine Yf ?_ | refine Yg ?_ | refine Yh ?_ | refine Yi ?_ | refine Yj ?_ | refine Yk ?_ | refine Yl ?_ | refine Ym ?_ | refine Yn ?_ | refine Yo ?_ | refine Yp (h := ?_) | refine Yq ?_ | refine Yr ?_ | refine Ys ?_ | refine Zr hc (hk := ?_) | refine Zd hc (hk := ?_) | (refine Zc (ht := fun hb => ?_) (hf := fun hb => ?_) <;> (try simp at hb)) | fail) | (first | refine Zo hc (hk := ?_) | refine Zu hc (hk := ?_) | refine Ze hc (hk := ?_) | refine Zn hc (hk := ?_) | fail))
      all_goals try (exfalso; omega)
      all_goals try (exact absurd he hb)
      exact ⟨j + 1, by omega, by omega, run_back [0, 11, 12] [] (by simp; exact Gives.mk) (by simp; exact Gives.mk) (by simp)⟩
    · repeat' (first | (first | refine Ya ?_ | refine Yb ?_ | refine Yc ?_ | refine Yd ?_ | refine Ye ?_ | refine Yf ?_ | refine Yg ?_ | refine Yh ?_ | refine Yi ?_ | refine Yj ?_ | refine Yk ?_ | refine Yl ?_ | refine Ym ?_ | refine Yn ?_ | refine Yo ?_ | refine Yp (h := ?_) | refine Yq ?_ | refine Yr ?_ | refine Ys ?_ | refine Zr hc (hk := ?_) | refine Zd hc (hk := ?_) | (refine Zc (ht := fun hb => ?_) (hf := fun hb => ?_) <;> (try simp at hb)) | fail) | (first | refine Zw hc (hf := by exact awake3_ok) (hk := ?_) | refine Zq hc (hf := by exact awake3_ok) (hk := ?_) | refine Zo hc (hk := ?_) | refine Zu hc (hk := ?_) | refine Ze hc (hk := ?_) | refine Zn hc (hk := ?_) | fail))
      all_goals try contradiction
      all_goals try (exfalso; omega)
      (refine Zl hc (hr := ?_))
      simp
end Go.Proofs.YtjbabjfmcganpaaGreatDoor
/-
  PAGE: what PageLinksStand's card leans on.
-/
