/-
  PAGE: found, Links; where links stand. (WITH run_drawN.)
-/
import Derived.Test.YtjbabjfmcganpaaGreatDoorLkE
import Derived.Test.YtjbabjfmcganpaaGreatDoorLtE
import Derived.Test.YtjbabjfmcganpaaGreatDoorAdH
set_option linter.unusedSimpArgs false
set_option linter.unusedVariables false
namespace Go.Proofs.YtjbabjfmcganpaaGreatDoor
open Go.Lw Go.RowKit
set_option maxRecDepth 100000
set_option maxHeartbeats 1000000

theorem side_mem {m : List Tk} {a b : Nat} (h : Side m a b) : ∀ t ∈ m, Fit t ∧ (t.kind ≠ 2 → t.atts = []) ∧ t.atts.length ≤ 200000 := by
  induction m generalizing a with
  | nil => intro t ht; cases ht
  | cons t m ih =>
    intro x hx
    cases hx with
    | head => exact ⟨h.2.2.1, h.2.2.2.1.1, h.2.2.2.1.2⟩
    | tail _ hx => exact ih h.2.2.2.2 x hx
theorem get_all {m : List Tk} {P : Tk → Prop} (h0 : P .none) (h : ∀ t ∈ m, P t) (i : Nat) : P (m[i]?.getD .none) := by
  by_cases hi : i < m.length
  · rw [List.getElem?_eq_getElem hi]
    exact h _ (List.getElem_mem hi)
  · rw [List.getElem?_eq_none (by omega)]
    exact h0
theorem run_tkIn (p : Bs) (h : p.length ≤ 200000 ∧ (run p 0 0 []).length ≤ 20000) : TkIn p (run p 0 0 []) := by
  have hS := run_side p h.1 p.length 0 0 [] (by omega) (Nat.le_refl _) (by omega) rfl h.2
  have hM := side_mem hS
  have hT := runIn_ok p
  refine ⟨h.1, ⟨h.2, get_all (P := fun t => t.atts.length ≤ 200000) (by simp) (fun t ht => (hM t ht).2.2), get_all (P := fun t => ∀ a ∈ t.atts, a.val.length ≤ 200000) (fun a ha => by cases ha) fun t ht a ha => ?_⟩, fun i hi => ?_, get_all (P := fun t => t.kind ≠ 2 → t.atts = []) (fun _ => rfl) fun t ht => (hM t ht).2.1⟩
  · have hv := (hT t ht).val a ha
    by_cases hh : a.has = true
    · rw [hv.1 hh]
      have := meant_len ((p.take a.til).drop a.fr)
      simp only [List.length_drop, List.length_take] at this
      omega
    · rw [hv.2 (Bool.eq_false_iff.2 hh)]
      simp
  · have := (side_get hS).2 i hi
    omega
theorem checkedV_ok (l : Bs) (hm : l.length ≤ maxLen) : FnOk Tryz.prog 22 [byS l] (if l.length ≤ 200000 ∧ (run l 0 0 []).length ≤ 20000 then .tup [tokSu (run l 0 0 []), int 0] else .tup [nilSl, int 2]) := by
  have hC := checked_ok l hm
  by_cases h : l.length ≤ 200000 ∧ (run l 0 0 []).length ≤ 20000
  · have hS := run_side l h.1 l.length 0 0 [] (by omega) (Nat.le_refl _) (by omega) rfl h.2
    rw [if_pos h] at hC ⊢
    refine FnOk.weak (res := .tup [tokSl (run l 0 0 []), int 0]) hC (weak_tup rfl fun k d hd => ?_)
    match k, hd with
    | 0, hd => cases hd; exact ⟨_, rfl, weak_tok hS.plain⟩
    | 1, hd => cases hd; exact ⟨_, rfl, Weak.refl _⟩
  · rw [if_neg h] at hC ⊢
    exact hC
/-- What stands in the way of finding links. -/
def fdE (p : Bs) (a : Adr) : Nat := if ¬ (p.length ≤ 200000 ∧ (run p 0 0 []).length ≤ 20000) then 2 else if chkC a ≠ 0 then chkC a else if 5000 < (linksR p a (run p 0 0 [])).length then 2 else 0
theorem fdE_zero {p : Bs} {a : Adr} (h : fdE p a = 0) : (p.length ≤ 200000 ∧ (run p 0 0 []).length ≤ 20000) ∧ chkC a = 0 ∧ (linksR p a (run p 0 0 [])).length ≤ 5000 := by
  unfold fdE at h
  split at h
  · cases h
  · rename_i h1
    split at h
    · rename_i h2; exact absurd h h2
    · rename_i h2
      split at h
      · cases h
      · rename_i h3
        exact ⟨Classical.not_not.1 h1, Classical.not_not.1 h2, by omega⟩
theorem found_ok (p : Bs) (a : Adr) (hm : p.length ≤ maxLen) (ha : a.Fits) : FnOk Tryz.prog 12 [byS p, adrD a] (if fdE p a = 0 then .tup [tokSu (run p 0 0 []), lnkSl (linksR p a (run p 0 0 [])), int 0] else .tup [nilSl, nilSl, int (fdE p a)]) := by
  have hC := checkedV_ok p hm
  refine fnOk Tryz.func12 rfl (by kernel_rfl) Tryz.ntmps12 _ rfl (by simp) fun C hc => ?_
  have hA := check_ok a ha
  unfold maxLen at hm
  unfold fdE
  by_cases h : p.length ≤ 200000 ∧ (run p 0 0 []).length ≤ 20000
  rotate_left
  · rw [if_neg h] at hC
    rw [if_pos h, if_neg (by decide)]
    repeat' (first | (first | refine Ya ?_ | refine Yb ?_ | refine Yc ?_ | refine Yd ?_ | refine Ye ?_ | refine Yf ?_ | refine Yg ?_ | refine Yh ?_ | refine Yi ?_ | refine Yj ?_ | refine Yk ?_ | refine Yl ?_ | refine Ym ?_ | refine Yn ?_ | refine Yo ?_ | refine Yp (h := ?_) | refine Yq ?_ | refine Yr ?_ | refine Ys ?_ | refine Zr hc (hk := ?_) | refine Zd hc (hk := ?_) | (refine Zc (ht := fun hb => ?_) (hf := fun hb => ?_) <;> (try simp at hb)) | fail) | (first | refine Zw hc (hf := by exact hC) (hk := ?_) | refine Zq hc (hf := by exact hC) (hk := ?_) | refine Zo hc (hk := ?_) | refine Zu hc (hk := ?_) | refine Ze hc (hk := ?_) | refine Zn hc (hk := ?_) | fail))
    all_goals try contradiction
    (refine Zl hc (hr := ?_))
    simp
  have hT := run_tkIn p h
  have hL := links_ok p (run p 0 0 []) a ha hT
  rw [if_pos h] at hC
  rw [if_neg (show ¬ ¬ (p.length ≤ 200000 ∧ (run p 0 0 []).length ≤ 20000) from fun e => e h)]
  by_cases h0 : chkC a = 0
  rotate_left
  · rw [if_pos h0, if_neg h0]
    repeat' (first | (first | refine Ya ?_ | refine Yb ?_ | refine Yc ?_ | refine Yd ?_ | refine Ye ?_ | refine Yf ?_ | refine Yg ?_ | refine Yh ?_ | refine Yi ?_ | refine Yj ?_ | refine Yk ?_ | refine Yl ?_ | refine Ym ?_ | refine Yn ?_ | refine Yo ?_ | refine Yp (h := ?_) | refine Yq ?_ | refine Yr ?_ | refine Ys ?_ | refine Zr hc (hk := ?_) | refine Zd hc (hk := ?_) | (refine Zc (ht := fun hb => ?_) (hf := fun hb => ?_) <;> (try simp at hb)) | fail) | (first | refine Zw hc (hf := by first | exact hC | exact hA) (hk := ?_) | refine Zq hc (hf := by first | exact hC | exact hA) (hk := ?_) | refine Zo hc (hk := ?_) | refine Zu hc (hk := ?_) | refine Ze hc (hk := ?_) | refine Zn hc (hk := ?_) | fail))
    all_goals try contradiction
    (refine Zl hc (hr := ?_))
    simp
  rw [if_neg (show ¬ chkC a ≠ 0 from fun e => e h0)]
  rw [h0] at hA
  generalize linksR p a (run p 0 0 []) = L at hL ⊢
  have hlen := hT.fit.len
  generalize run p 0 0 [] = m at hC hL hlen ⊢
  repeat' (first | (first | refine Ya ?_ | refine Yb ?_ | refine Yc ?_ | refine Yd ?_ | refine Ye ?_ | refine Yf ?_ | refine Yg ?_ | refine Yh ?_ | refine Yi ?_ | refine Yj ?_ | refine Yk ?_ | refine Yl ?_ | refine Ym ?_ | refine Yn ?_ | refine Yo ?_ | refine Yp (h := ?_) | refine Yq ?_ | refine Yr ?_ | refine Ys ?_ | refine Zr hc (hk := ?_) | refine Zd hc (hk := ?_) | (refine Zc (ht := fun hb => ?_) (hf := fun hb => ?_) <;> (try simp at hb)) | fail) | (first | refine Zw hc (hf := by first | exact hC | exact hA | exact hL) (hk := ?_) | refine Zq hc (hf := by first | exact hC | exact hA | exact hL) (hk := ?_) | refine Zo hc (hk := ?_) | refine Zu hc (hk := ?_) | refine Ze hc (hk := ?_) | refine Zn hc (hk := ?_) | fail))
  all_goals try contradiction
  all_goals try (exfalso; omega)
  · rw [if_pos (show 5000 < L.length by omega), if_neg (by decide)]
    (refine Zl hc (hr := ?_))
    simp
  · rw [if_neg (show ¬ 5000 < L.length by omega), if_pos rfl]
    (refine Zl hc (hr := ?_))
    simp
/-- What is said of a link that stands in a page. -/
structure Stand (p : Bs) (x : Lnk) : Prop where
  le : x.fr ≤ x.til
  til : x.til ≤ p.length
  text : x.kind ≠ 4 → x.kind ≠ 9 → meant (cutB p (x.fr, x.til)) = x.text
theorem Ord.mem {r : List (Nat × Nat)} {a b : Nat} (h : Ord r a b) {x : Nat × Nat} (hx : x ∈ r) : a ≤ x.1 ∧ x.1 ≤ x.2 ∧ x.2 ≤ b := by
  obtain ⟨i, hi, rfl⟩ := List.getElem_of_mem hx
  have := h.get i hi
  rw [List.getElem?_eq_getElem hi] at this
  exact this
end Go.Proofs.YtjbabjfmcganpaaGreatDoor
/-
  PAGE: Rewrite, RewriteStyle; the statement PageTurnsNone, walked. (WITH run_drawN.)
-/
set_option linter.unusedSimpArgs false
set_option linter.unusedVariables false
namespace Go.Proofs.YtjbabjfmcganpaaGreatDoor
open Go.Lw Go.RowKit Go.ChangeShapes Go.WideShapes Go.ChangeAt
set_option maxRecDepth 100000
set_option maxHeartbeats 2000000

theorem resR_frag (b : Adr) (s : Bs) : (resR b s).1.frag.length ≤ 2000 := by
  unfold resR
  split
  · simp
  split
  · simp
  generalize resP b (lkTrim s) = x
  unfold resF
  split
  · simp
  split
  · simp
  · rename_i h
    exact (chk_parts (Classical.not_not.1 h)).2.2.2.2.2
theorem addL_lnkIn (a b : Adr) (k : Nat) (text : Bs) (fr til : Nat) : LnkIn (addL a b k text fr til) := by
  unfold addL
  generalize (if k = 1 then a else b) = c
  split
  · exact ⟨resR_fits _ _, resR_frag _ _⟩
  · exact ⟨⟨by simp, by simp, by simp, by simp, by simp, by simp⟩, by simp⟩
theorem attsLs_lnkIn (a b : Adr) (t : Tk) : ∀ k, ∀ x ∈ attsLs a b t k, LnkIn x
  | 0, x, hx => by cases hx
  | k + 1, x, hx => by
    rcases List.mem_append.1 (show x ∈ attsLs a b t k ++ attLs a b t k from hx) with h | h
    · exact attsLs_lnkIn a b t k x h
    · unfold attLs at h
      split at h
      · obtain ⟨y, _, rfl⟩ := List.mem_map.1 h
        exact addL_lnkIn _ _ _ _ _ _
      · cases h
theorem allLs_lnkIn (p : Bs) (a b : Adr) (m : List Tk) : ∀ i, ∀ x ∈ allLs p a b m i, LnkIn x
  | 0, x, hx => by cases hx
  | i + 1, x, hx => by
    rcases List.mem_append.1 (show x ∈ allLs p a b m i ++ tokLs p a b m i from hx) with h | h
    · exact allLs_lnkIn p a b m i x h
    · rcases List.mem_append.1 (show x ∈ styLs p a b m i ++ attsLs a b (m[i]?.getD .none) (m[i]?.getD .none).atts.length from h) with h | h
      · unfold styLs at h
        split at h
        · obtain ⟨y, _, rfl⟩ := List.mem_map.1 h
          exact addL_lnkIn _ _ _ _ _ _
        · cases h
      · exact attsLs_lnkIn a b _ _ x h
theorem side_next {m : List Tk} {a b : Nat} (h : Side m a b) : ∀ i, i + 1 < m.length → (m[i]?.getD Tk.none).til ≤ (m[i + 1]?.getD Tk.none).fr := by
  induction m generalizing a with
  | nil => intro i hi; simp at hi
  | cons t m ih =>
    intro i hi
    cases i with
    | zero =>
      cases m with
      | nil => simp at hi
      | cons u m =>
        have := h.2.2.2.2.1
        simp; omega
    | succ i => simpa using ih h.2.2.2.2 i (by simpa using hi)
theorem FnOk.args {P : Program} {f : FuncId} {l m : List D} {res : D} (hl : l.length = m.length) (hw : ∀ (i : Nat) (e : D), m[i]? = some e → ∃ d, l[i]? = some d ∧ Weak d e) (h : FnOk P f m res) : FnOk P f l res :=
  ⟨h.1, fun ok w vs hok hs ha => h.2 ok w vs hok hs ⟨ha.1.trans hl, fun i e hi => by
    obtain ⟨d, h1, h2⟩ := hw i e hi
    obtain ⟨v, h3, h4⟩ := ha.2 i d h1
    exact ⟨v, h3, h2 _ _ _ h4⟩⟩⟩
/-- All edits of a page. -/
def edF (p : Bs) (a : Adr) (T : List Trn) : EdS := edGo p T (linksR p a (run p 0 0 [])) (run p 0 0 []) (run p 0 0 []).length
theorem edF_ok (p : Bs) (a : Adr) (T : List Trn) (hT : trnE T = 0) (h : fdE p a = 0) :
    FnMem Tryz.prog 20 [.bp 100000 0, .d (str p), .d (tokSu (run p 0 0 [])), .d (lnkSl (linksR p a (run p 0 0 [])))] (tur 100000 T 0) (.d (edtSl (edF p a T).E)) (tur 100000 T (edF p a T).n) ∧ EdIn (edF p a T) p.length ∧ (edF p a T).k ≤ 5000 := by
  obtain ⟨h1, h2, h3⟩ := fdE_zero h
  have hS := run_side p h1.1 p.length 0 0 [] (by omega) (Nat.le_refl _) (by omega) rfl h1.2
  have hm := run_tkIn p h1
  have hT2 := runIn_ok p
  have hA : ∀ i, i < (run p 0 0 []).length → OrdA ((run p 0 0 [])[i]?.getD Tk.none).atts ((run p 0 0 [])[i]?.getD Tk.none).fr ((run p 0 0 [])[i]?.getD Tk.none).til := fun i hi => by
    rw [List.getElem?_eq_getElem hi]
    exact (hT2 _ (List.getElem_mem hi)).ord
  have hst := (stopAt_le p a (baseAt (run p 0 0 []) a 0) (run p 0 0 []) 0 (Nat.zero_le _)).2.2 h3
  have hLe : linksR p a (run p 0 0 []) = allLs p a (baseAt (run p 0 0 []) a 0) (run p 0 0 []) (run p 0 0 []).length := by
    unfold linksR
    rw [hst]
  have hL : ∀ x ∈ linksR p a (run p 0 0 []), LnkIn x := fun x hx => allLs_lnkIn _ _ _ _ _ x hx
  refine ⟨edits_ok p T hT _ hm hA (side_next hS) a _ _ hLe h3 hL, ?_, ?_⟩
  · have := edGo_in hT hL hm hA (side_next hS) a (baseAt (run p 0 0 []) a 0) (by rw [← hLe]; exact h3) _ (Nat.le_refl _)
    rw [if_neg (Nat.lt_irrefl _)] at this
    exact this
  · have := edGo_k p T (linksR p a (run p 0 0 [])) a (baseAt (run p 0 0 []) a 0) (run p 0 0 []) (run p 0 0 []).length
    unfold edF
    rw [this, ← hLe]
    exact h3
def rwD (p : Bs) (a : Adr) (T : List Trn) : D :=
  if fdE p a ≠ 0 then .tup [nilSl, int 0, int (fdE p a)] else if trnE T ≠ 0 then .tup [nilSl, int 0, int (trnE T)]
  else if 200000 < (appR p (edF p a T).E).length then .tup [nilSl, int 0, int 2] else .tup [byS (appR p (edF p a T).E), int (edF p a T).n, int 0]
abbrev TrnFits (T : List Trn) : Prop := ∀ i, (trnAt T i).1.length ≤ 9223372036854775807 ∧ (trnAt T i).2.length ≤ 9223372036854775807
theorem rewrite_ok (p : Bs) (a : Adr) (T : List Trn) (hm : p.length ≤ maxLen) (ha : a.Fits) (hT : TrnFits T) : FnOk Tryz.prog 9 [byS p, adrD a, trnSl T] (rwD p a T) := by
  have hF := found_ok p a hm ha
  refine fnOk Tryz.func9 rfl (by kernel_rfl) Tryz.ntmps9 _ rfl (by simp) fun C hc => ?_
  have hCT := checkTurns_ok T hT
  unfold maxLen at hm
  unfold rwD
  by_cases h : fdE p a = 0
  rotate_left
  · rw [if_neg h] at hF
    rw [if_pos h]
    repeat' (first | (first | refine Ya ?_ | refine Yb ?_ | refine Yc ?_ | refine Yd ?_ | refine Ye ?_ | refine Yf ?_ | refine Yg ?_ | refine Yh ?_ | refine Yi ?_ | refine Yj ?_ | refine Yk ?_ | refine Yl ?_ | refine Ym ?_ | refine Yn ?_ | refine Yo ?_ | refine Yp (h := ?_) | refine Yq ?_ | refine Yr ?_ | refine Ys ?_ | refine Zr hc (hk := ?_) | refine Zd hc (hk := ?_) | (refine Zc (ht := fun hb => ?_) (hf := fun hb => ?_) <;> (try simp at hb)) | fail) | (first | refine Zw hc (hf := by exact hF) (hk := ?_) | refine Zq hc (hf := by exact hF) (hk := ?_) | refine Zo hc (hk := ?_) | refine Zu hc (hk := ?_) | refine Ze hc (hk := ?_) | refine Zn hc (hk := ?_) | fail))
    all_goals try contradiction
    (refine Zl hc (hr := ?_))
    simp
  rw [if_pos h] at hF
  rw [if_neg (fun e => e h)]
  by_cases hE0 : trnE T = 0
  rotate_left
  · rw [if_pos hE0]
    generalize linksR p a (run p 0 0 []) = L at hF
    generalize run p 0 0 [] = m at hF
    repeat' (first | (first | refine Ya ?_ | refine Yb ?_ | refine Yc ?_ | refine Yd ?_ | refine Ye ?_ | refine Yf ?_ | refine Yg ?_ | refine Yh ?_ | refine Yi ?_ | refine Yj ?_ | refine Yk ?_ | refine Yl ?_ | refine Ym ?_ | refine Yn ?_ | refine Yo ?_ | refine Yp (h := ?_) | refine Yq ?_ | refine Yr ?_ | refine Ys ?_ | refine Zr hc (hk := ?_) | refine Zd hc (hk := ?_) | (refine Zc (ht := fun hb => ?_) (hf := fun hb => ?_) <;> (try simp at hb)) | fail) | (first | refine Zw hc (hf := by first | exact hF | exact hCT) (hk := ?_) | refine Zq hc (hf := by first | exact hF | exact hCT) (hk := ?_) | refine Zo hc (hk := ?_) | refine Zu hc (hk := ?_) | refine Ze hc (hk := ?_) | refine Zn hc (hk := ?_) | fail))
    all_goals try contradiction
    (refine Zl hc (hr := ?_))
    simp
  rw [if_neg (fun e => e hE0)]
  obtain ⟨hEd, hin, hk5⟩ := edF_ok p a T hE0 h
  obtain ⟨h1, h2, h3⟩ := fdE_zero h
  have hAp := apply_ok p (edF p a T).E h1.1 (by have := hin.less; have := hin.many; omega) hin.ord hin.new
  rw [hE0] at hCT
  generalize edF p a T = s at hEd hAp ⊢
  generalize linksR p a (run p 0 0 []) = L at hF hEd
  generalize run p 0 0 [] = m at hF hEd
  by_cases hb2 : 200000 < (appR p s.E).length
  · rw [if_pos hb2] at hAp ⊢
    repeat' (first | (first | refine Ya ?_ | refine Yb ?_ | refine Yc ?_ | refine Yd ?_ | refine Ye ?_ | refine Yf ?_ | refine Yg ?_ | refine Yh ?_ | refine Yi ?_ | refine Yj ?_ | refine Yk ?_ | refine Yl ?_ | refine Ym ?_ | refine Yn ?_ | refine Yo ?_ | refine Yp (h := ?_) | refine Yq ?_ | refine Yr ?_ | refine Ys ?_ | refine Zr hc (hk := ?_) | refine Zd hc (hk := ?_) | (refine Zc (ht := fun hb => ?_) (hf := fun hb => ?_) <;> (try simp at hb)) | fail) | (first | refine Zw hc (hf := by first | exact hF | exact hCT) (hk := ?_) | refine Zq hc (hf := by first | exact hF | exact hCT) (hk := ?_) | refine Zo hc (hk := ?_) | refine Zu hc (hk := ?_) | refine Ze hc (hk := ?_) | fail))
    all_goals try contradiction
    refine ewp_le (run_keep [0, 9, 10, 13] [32] (by simp; exact Gives.mk) (by simp; exact Gives.mk)) ?_
    (apply run_drawAny 14 hc (by kernel_rfl) rfl; (focus (refine run_anyM 0 hc rfl (by kernel_rfl) rfl (by first | exact .inl rfl | exact .inr rfl) (by simp; exact Gives.mk) (by simp) (by simp; exact Gives.mk) ?_; refine run_anyM 2 hc rfl (by kernel_rfl) rfl (by first | exact .inl rfl | exact .inr rfl) (by simp; exact Gives.mk) (by simp) (by simp; exact Gives.mk) ?_; refine run_anyM 3 hc rfl (by kernel_rfl) rfl (by first | exact .inl rfl | exact .inr rfl) (by simp; exact Gives.mk) (by simp) (by simp; exact Gives.mk) ?_; refine run_anyM 5 hc rfl (by kernel_rfl) rfl (by first | exact .inl rfl | exact .inr rfl) (by simp; exact Gives.mk) (by simp) (by simp; exact Gives.mk) ?_; refine run_anyM 6 hc rfl (by kernel_rfl) rfl (by first | exact .inl rfl | exact .inr rfl) (by simp; exact Gives.mk) (by simp) (by simp; exact Gives.mk) ?_; refine anyW_all [1, 4] (by kernel_rfl) rfl ?_; refine ⟨?_, ?_⟩; (focus (refine run_stepW hc rfl (by simp; exact Ends.go) (by first | exact True.intro | omega | (simp; done) | (simp; omega) | (simp at *; omega)) ?q80; refine anyW_all [4] (by kernel_rfl) rfl ?nq80; (focus (refine run_stepW hc rfl (by simp; exact Ends.go) (by first | exact True.intro | omega | (simp; done) | (simp; omega) | (simp at *; omega)) ?q81; refine anyW_all [7] (by kernel_rfl) rfl ?nq81; (focus (refine run_stepM ([(100000, 32)]) (hEd) hc rfl (by simp; exact Gives.mk) (by simp; exact Gives.mk) (by simp; exact Gives.mk) (by simp; exact Gives.mk) (by simp; exact Gives.mk) rfl (by simp; exact Gives.mk) (by simp; exact Gives.mk) rfl (by simp) (by simp) (by simp; exact Gives.mk) (by simp; exact Gives.mk) ?q82; refine anyW_all [8] (by kernel_rfl) rfl ?nq82; (focus (refine run_stepC hc rfl rfl (by simp; exact Gives.mk) (by simp; exact Gives.mk) (by simp; exact Gives.mk) (by simp; exact Gives.mk) (by simp; exact Gives.mk) (fun _ => hAp) (by simp) (by simp) ?q83; refine run_anyM 9 hc rfl (by kernel_rfl) rfl (by first | exact .inl rfl | exact .inr rfl) (by simp; exact Gives.mk) (by simp) (by simp; exact Gives.mk) ?nq83; refine anyW_all [10, 11] (by kernel_rfl) rfl ?_; refine ⟨?_, ?_⟩; (focus (refine run_stepW hc rfl (by simp; exact Ends.go) (by first | exact True.intro | omega | (simp; done) | (simp; omega) | (simp at *; omega)) ?q84; refine run_anyM 12 hc rfl (by kernel_rfl) rfl (by first | exact .inl rfl | exact .inr rfl) (by simp; exact Gives.mk) (by simp) (by simp; exact Gives.mk) ?nq84; refine anyW_all [11] (by kernel_rfl) rfl ?_; (focus (refine run_stepW hc rfl (by simp; exact Ends.go) (by first | exact True.intro | omega | (simp; done) | (simp; omega) | (simp at *; omega)) ?q85; refine run_anyM 13 hc rfl (by kernel_rfl) rfl (by first | exact .inl rfl | exact .inr rfl) (by simp; exact Gives.mk) (by simp) (by simp; exact Gives.mk) ?nq85; refine anyW_done (by kernel_rfl) ?_; exact run_keep [11, 13, 14] [32] (by simp; try exact Gives.mk) (by simp; try exact Gives.mk))))); (focus (refine run_stepW hc rfl (by simp; exact Ends.go) (by first | exact True.intro | omega | (simp; done) | (simp; omega) | (simp at *; omega)) ?q86; refine anyW_all [10] (by kernel_rfl) rfl ?nq86; (focus (refine run_stepW hc rfl (by simp; exact Ends.go) (by first | exact True.intro | omega | (simp; done) | (simp; omega) | (simp at *; omega)) ?q87; refine run_anyM 12 hc rfl (by kernel_rfl) rfl (by first | exact .inl rfl | exact .inr rfl) (by simp; exact Gives.mk) (by simp) (by simp; exact Gives.mk) ?nq87; refine run_anyM 13 hc rfl (by kernel_rfl) rfl (by first | exact .inl rfl | exact .inr rfl) (by simp; exact Gives.mk) (by simp) (by simp; exact Gives.mk) ?_; refine anyW_done (by kernel_rfl) ?_; exact run_back [11, 13, 14] [32] (by simp; exact Gives.mk) (by simp; exact Gives.mk) (by simp))))))))))))); (focus (refine run_stepW hc rfl (by simp; exact Ends.go) (by first | exact True.intro | omega | (simp; done) | (simp; omega) | (simp at *; omega)) ?q88; refine anyW_all [1, 7] (by kernel_rfl) rfl ?nq88; refine ⟨?_, ?_⟩; (focus (refine run_stepW hc rfl (by simp; exact Ends.go) (by first | exact True.intro | omega | (simp; done) | (simp; omega) | (simp at *; omega)) ?_; exact anyW_le (run_back [0, 9, 10, 13, 34, 36, 37, 39, 40, 35, 38] [32] (by simp; exact Gives.mk) (by simp; exact Gives.mk) (by simp)) ?q81)); (focus (refine run_stepM ([(100000, 32)]) (hEd) hc rfl (by simp; exact Gives.mk) (by simp; exact Gives.mk) (by simp; exact Gives.mk) (by simp; exact Gives.mk) (by simp; exact Gives.mk) rfl (by simp; exact Gives.mk) (by simp; exact Gives.mk) rfl (by simp) (by simp) (by simp; exact Gives.mk) (by simp; exact Gives.mk) ?q89; refine anyW_all [1] (by kernel_rfl) rfl ?nq89; (focus (refine run_stepW hc rfl (by simp; exact Ends.go) (by first | exact True.intro | omega | (simp; done) | (simp; omega) | (simp at *; omega)) ?_; exact anyW_le (run_back [0, 9, 10, 13, 34, 36, 37, 39, 40, 35, 38, 41] [32] (by simp; exact Gives.mk) (by simp; exact Gives.mk) (by simp)) ?q82)))))))))
    repeat' (first | (first | refine Ya ?_ | refine Yb ?_ | refine Yc ?_ | refine Yd ?_ | refine Ye ?_ | refine Yf ?_ | refine Yg ?_ | refine Yh ?_ | refine Yi ?_ | refine Yj ?_ | refine Yk ?_ | refine Yl ?_ | refine Ym ?_ | refine Yn ?_ | refine Yo ?_ | refine Yp (h := ?_) | refine Yq ?_ | refine Yr ?_ | refine Ys ?_ | refine Zr hc (hk := ?_) | refine Zd hc (hk := ?_) | (refine Zc (ht := fun hb => ?_) (hf := fun hb => ?_) <;> (try simp at hb)) | fail) | (first | refine Zo hc (hk := ?_) | refine Zu hc (hk := ?_) | refine Ze hc (hk := ?_) | fail))
    all_goals try contradiction
    (refine Zl hc (hr := ?_))
    simp
  · rw [if_neg hb2] at hAp ⊢
    repeat' (first | (first | refine Ya ?_ | refine Yb ?_ | refine Yc ?_ | refine Yd ?_ | refine Ye ?_ | refine Yf ?_ | refine Yg ?_ | refine Yh ?_ | refine Yi ?_ | refine Yj ?_ | refine Yk ?_ | refine Yl ?_ | refine Ym ?_ | refine Yn ?_ | refine Yo ?_ | refine Yp (h := ?_) | refine Yq ?_ | refine Yr ?_ | refine Ys ?_ | refine Zr hc (hk := ?_) | refine Zd hc (hk := ?_) | (refine Zc (ht := fun hb => ?_) (hf := fun hb => ?_) <;> (try simp at hb)) | fail) | (first | refine Zw hc (hf := by first | exact hF | exact hCT) (hk := ?_) | refine Zq hc (hf := by first | exact hF | exact hCT) (hk := ?_) | refine Zo hc (hk := ?_) | refine Zu hc (hk := ?_) | refine Ze hc (hk := ?_) | fail))
    all_goals try contradiction
    refine ewp_le (run_keep [0, 9, 10, 13] [32] (by simp; exact Gives.mk) (by simp; exact Gives.mk)) ?_
    (apply run_drawAny 14 hc (by kernel_rfl) rfl; (focus (refine run_anyM 0 hc rfl (by kernel_rfl) rfl (by first | exact .inl rfl | exact .inr rfl) (by simp; exact Gives.mk) (by simp) (by simp; exact Gives.mk) ?_; refine run_anyM 2 hc rfl (by kernel_rfl) rfl (by first | exact .inl rfl | exact .inr rfl) (by simp; exact Gives.mk) (by simp) (by simp; exact Gives.mk) ?_; refine run_anyM 3 hc rfl (by kernel_rfl) rfl (by first | exact .inl rfl | exact .inr rfl) (by simp; exact Gives.mk) (by simp) (by simp; exact Gives.mk) ?_; refine run_anyM 5 hc rfl (by kernel_rfl) rfl (by first | exact .inl rfl | exact .inr rfl) (by simp; exact Gives.mk) (by simp) (by simp; exact Gives.mk) ?_; refine run_anyM 6 hc rfl (by kernel_rfl) rfl (by first | exact .inl rfl | exact .inr rfl) (by simp; exact Gives.mk) (by simp) (by simp; exact Gives.mk) ?_; refine anyW_all [1, 4] (by kernel_rfl) rfl ?_; refine ⟨?_, ?_⟩; (focus (refine run_stepW hc rfl (by simp; exact Ends.go) (by first | exact True.intro | omega | (simp; done) | (simp; omega) | (simp at *; omega)) ?qb80; refine anyW_all [4] (by kernel_rfl) rfl ?nqb80; (focus (refine run_stepW hc rfl (by simp; exact Ends.go) (by first | exact True.intro | omega | (simp; done) | (simp; omega) | (simp at *; omega)) ?qb81; refine anyW_all [7] (by kernel_rfl) rfl ?nqb81; (focus (refine run_stepM ([(100000, 32)]) (hEd) hc rfl (by simp; exact Gives.mk) (by simp; exact Gives.mk) (by simp; exact Gives.mk) (by simp; exact Gives.mk) (by simp; exact Gives.mk) rfl (by simp; exact Gives.mk) (by simp; exact Gives.mk) rfl (by simp) (by simp) (by simp; exact Gives.mk) (by simp; exact Gives.mk) ?qb82; refine anyW_all [8] (by kernel_rfl) rfl ?nqb82; (focus (refine run_stepC hc rfl rfl (by simp; exact Gives.mk) (by simp; exact Gives.mk) (by simp; exact Gives.mk) (by simp; exact Gives.mk) (by simp; exact Gives.mk) (fun _ => hAp) (by simp) (by simp) ?qb83; refine run_anyM 9 hc rfl (by kernel_rfl) rfl (by first | exact .inl rfl | exact .inr rfl) (by simp; exact Gives.mk) (by simp) (by simp; exact Gives.mk) ?nqb83; refine anyW_all [10, 11] (by kernel_rfl) rfl ?_; refine ⟨?_, ?_⟩; (focus (refine run_stepW hc rfl (by simp; exact Ends.go) (by first | exact True.intro | omega | (simp; done) | (simp; omega) | (simp at *; omega)) ?qb84; refine run_anyM 12 hc rfl (by kernel_rfl) rfl (by first | exact .inl rfl | exact .inr rfl) (by simp; exact Gives.mk) (by simp) (by simp; exact Gives.mk) ?nqb84; refine anyW_all [11] (by kernel_rfl) rfl ?_; (focus (refine run_stepW hc rfl (by simp; exact Ends.go) (by first | exact True.intro | omega | (simp; done) | (simp; omega) | (simp at *; omega)) ?qb85; refine run_anyM 13 hc rfl (by kernel_rfl) rfl (by first | exact .inl rfl | exact .inr rfl) (by simp; exact Gives.mk) (by simp) (by simp; exact Gives.mk) ?nqb85; refine anyW_done (by kernel_rfl) ?_; exact run_keep [11, 13, 14] [32] (by simp; try exact Gives.mk) (by simp; try exact Gives.mk))))); (focus (refine run_stepW hc rfl (by simp; exact Ends.go) (by first | exact True.intro | omega | (simp; done) | (simp; omega) | (simp at *; omega)) ?qb86; refine anyW_all [10] (by kernel_rfl) rfl ?nqb86; (focus (refine run_stepW hc rfl (by simp; exact Ends.go) (by first | exact True.intro | omega | (simp; done) | (simp; omega) | (simp at *; omega)) ?qb87; refine run_anyM 12 hc rfl (by kernel_rfl) rfl (by first | exact .inl rfl | exact .inr rfl) (by simp; exact Gives.mk) (by simp) (by simp; exact Gives.mk) ?nqb87; refine run_anyM 13 hc rfl (by kernel_rfl) rfl (by first | exact .inl rfl | exact .inr rfl) (by simp; exact Gives.mk) (by simp) (by simp; exact Gives.mk) ?_; refine anyW_done (by kernel_rfl) ?_; exact run_back [11, 13, 14] [32] (by simp; exact Gives.mk) (by simp; exact Gives.mk) (by simp))))))))))))); (focus (refine run_stepW hc rfl (by simp; exact Ends.go) (by first | exact True.intro | omega | (simp; done) | (simp; omega) | (simp at *; omega)) ?qb88; refine anyW_all [1, 7] (by kernel_rfl) rfl ?nqb88; refine ⟨?_, ?_⟩; (focus (refine run_stepW hc rfl (by simp; exact Ends.go) (by first | exact True.intro | omega | (simp; done) | (simp; omega) | (simp at *; omega)) ?_; exact anyW_le (run_back [0, 9, 10, 13, 34, 36, 37, 39, 40, 35, 38] [32] (by simp; exact Gives.mk) (by simp; exact Gives.mk) (by simp)) ?qb81)); (focus (refine run_stepM ([(100000, 32)]) (hEd) hc rfl (by simp; exact Gives.mk) (by simp; exact Gives.mk) (by simp; exact Gives.mk) (by simp; exact Gives.mk) (by simp; exact Gives.mk) rfl (by simp; exact Gives.mk) (by simp; exact Gives.mk) rfl (by simp) (by simp) (by simp; exact Gives.mk) (by simp; exact Gives.mk) ?qb89; refine anyW_all [1] (by kernel_rfl) rfl ?nqb89; (focus (refine run_stepW hc rfl (by simp; exact Ends.go) (by first | exact True.intro | omega | (simp; done) | (simp; omega) | (simp at *; omega)) ?_; exact anyW_le (run_back [0, 9, 10, 13, 34, 36, 37, 39, 40, 35, 38, 41] [32] (by simp; exact Gives.mk) (by simp; exact Gives.mk) (by simp)) ?qb82)))))))))
    repeat' (first | (first | refine Ya ?_ | refine Yb ?_ | refine Yc ?_ | refine Yd ?_ | refine Ye ?_ | refine Yf ?_ | refine Yg ?_ | refine Yh ?_ | refine Yi ?_ | refine Yj ?_ | refine Yk ?_ | refine Yl ?_ | refine Ym ?_ | refine Yn ?_ | refine Yo ?_ | refine Yp (h := ?_) | refine Yq ?_ | refine Yr ?_ | refine Ys ?_ | refine Zr hc (hk := ?_) | refine Zd hc (hk := ?_) | (refine Zc (ht := fun hb => ?_) (hf := fun hb => ?_) <;> (try simp at hb)) | fail) | (first | refine Zo hc (hk := ?_) | refine Zu hc (hk := ?_) | refine Ze hc (hk := ?_) | refine Zn hc (hk := ?_) | fail))
    all_goals try contradiction
    (refine Zl hc (hr := ?_))
    simp
/-- RewriteStyle without turns. -/
theorem styR_lnkIn (p : Bs) (a : Adr) : ∀ x ∈ styR p a, LnkIn x := by
  intro x hx
  obtain ⟨y, _, rfl⟩ := List.mem_map.1 hx
  exact addL_lnkIn _ _ _ _ _ _
theorem trnE_nil : trnE [] = 0 := by
  unfold trnE
  rw [if_neg (by simp), trnGo, if_neg (by simp)]
theorem appR_nil (p : Bs) : appR p [] = p := rfl
theorem rewStyle_ok (p : Bs) (a : Adr) (hm : p.length ≤ maxLen) (ha : a.Fits) : FnOk Tryz.prog 11 [byS p, adrD a, trnSl []] (if stE p a = 0 then .tup [byS p, int 0, int 0] else .tup [nilSl, int 0, int (stE p a)]) := by
  have hF := styleLinks_ok p a hm ha
  refine fnOk Tryz.func11 rfl (by kernel_rfl) Tryz.ntmps11 _ rfl (by simp) fun C hc => ?_
  have hCT := checkTurns_ok [] (fun i => by simp [trnAt])
  rw [trnE_nil] at hCT
  unfold maxLen at hm
  by_cases h : stE p a = 0
  rotate_left
  · rw [if_neg h] at hF ⊢
    repeat' (first | (first | refine Ya ?_ | refine Yb ?_ | refine Yc ?_ | refine Yd ?_ | refine Ye ?_ | refine Yf ?_ | refine Yg ?_ | refine Yh ?_ | refine Yi ?_ | refine Yj ?_ | refine Yk ?_ | refine Yl ?_ | refine Ym ?_ | refine Yn ?_ | refine Yo ?_ | refine Yp (h := ?_) | refine Yq ?_ | refine Yr ?_ | refine Ys ?_ | refine Zr hc (hk := ?_) | refine Zd hc (hk := ?_) | (refine Zc (ht := fun hb => ?_) (hf := fun hb => ?_) <;> (try simp at hb)) | fail) | (first | refine Zw hc (hf := by exact hF) (hk := ?_) | refine Zq hc (hf := by exact hF) (hk := ?_) | refine Zo hc (hk := ?_) | refine Zu hc (hk := ?_) | refine Ze hc (hk := ?_) | refine Zn hc (hk := ?_) | fail))
    all_goals try contradiction
    (refine Zl hc (hr := ?_))
    simp
  rw [if_pos h] at hF ⊢
  have hpl : p.length ≤ 200000 := by
    unfold stE at h
    split at h
    · cases h
    · omega
  have hL := styR_lnkIn p a
  have hAp : FnOk Tryz.prog 19 [str p, nilSl] (.tup [byS p, int 0]) := by
    have h0 := apply_ok p [] hpl (by simp) (show Ord [] 0 p.length from Nat.zero_le _) (fun i => by simp)
    rw [appR_nil, if_neg (by omega)] at h0
    exact FnOk.args (m := [str p, edtSl []]) rfl (fun i e hi => by
      match i, hi with
      | 0, hi => cases hi; exact ⟨_, rfl, Weak.refl _⟩
      | 1, hi => cases hi; exact ⟨_, rfl, weak_nil _⟩) h0
  have hql : (styR p a).length ≤ 5000 := by
    have : (styR p a).length = (inS p 0).length := by simp [styR]
    unfold stE at h
    rw [if_neg (by omega)] at h
    split at h
    · rename_i h0; exact absurd h h0
    · split at h
      · cases h
      · omega
  generalize styR p a = Q at hF hL hql
  repeat' (first | (first | refine Ya ?_ | refine Yb ?_ | refine Yc ?_ | refine Yd ?_ | refine Ye ?_ | refine Yf ?_ | refine Yg ?_ | refine Yh ?_ | refine Yi ?_ | refine Yj ?_ | refine Yk ?_ | refine Yl ?_ | refine Ym ?_ | refine Yn ?_ | refine Yo ?_ | refine Yp (h := ?_) | refine Yq ?_ | refine Yr ?_ | refine Ys ?_ | refine Zr hc (hk := ?_) | refine Zd hc (hk := ?_) | (refine Zc (ht := fun hb => ?_) (hf := fun hb => ?_) <;> (try simp at hb)) | fail) | (first | refine Zw hc (hf := by first | exact hF | exact hCT) (hk := ?_) | refine Zq hc (hf := by first | exact hF | exact hCT) (hk := ?_) | refine Zo hc (hk := ?_) | refine Zu hc (hk := ?_) | refine Ze hc (hk := ?_) | fail))
  all_goals try contradiction
  refine ewp_loop (fun j : Nat => ⟨[(0, .d (byS p)), (12, .bp 35 0), (13, .d nilSl), (36, .d (lnkSl Q)), (37, .d (int Q.length)), (38, .d (int j))], tur 35 [] 0⟩) (fun j => j ≤ Q.length) (fun j => Q.length - j) 0 (by simp) (run_keep [0, 12, 13, 36, 37, 38] [35] (by simp; exact Gives.mk) (by simp; exact Gives.mk)) ?_
  intro j hj
  by_cases hjl : j < Q.length
  · have hTu := turned_ok [] trnE_nil (Q[j]?.getD .none) (lnkIn_get hL j) 0 (by omega)
    rw [turnB_nil] at hTu
    simp only [Bool.false_eq_true, if_false] at hTu
    repeat' (first | (first | refine Ya ?_ | refine Yb ?_ | refine Yc ?_ | refine Yd ?_ | refine Ye ?_ | refine Yf ?_ | refine Yg ?_ | refine Yh ?_ | refine Yi ?_ | refine Yj ?_ | refine Yk ?_ | refine Yl ?_ | refine Ym ?_ | refine Yn ?_ | refine Yo ?_ | refine Yp (h := ?_) | refine Yq ?_ | refine Yr ?_ | refine Ys ?_ | refine Zr hc (hk := ?_) | refine Zd hc (hk := ?_) | (refine Zc (ht := fun hb => ?_) (hf := fun hb => ?_) <;> (try simp at hb)) | fail) | (first | refine Zo hc (hk := ?_) | refine Zu hc (hk := ?_) | refine Ze hc (hk := ?_) | fail) | (first | refine run_callM ([(100000, 35)]) (hTu) hc (by simp; exact Gives.mk) (by simp; exact Gives.mk) (by simp; exact Gives.mk) (by simp; exact Gives.mk) (by simp; exact Gives.mk) rfl (by simp; exact Gives.mk) (by simp; exact Gives.mk) rfl (by simp) (by simp) (by simp; exact Gives.mk) (by simp; exact Gives.mk) ?_ | fail))
    all_goals try contradiction
    all_goals try (exfalso; omega)
    exact ⟨j + 1, by omega, by omega, run_back [0, 12, 13, 36, 37, 38] [35] (by simp; exact Gives.mk) (by simp; exact Gives.mk) (by simp)⟩
  · obtain rfl : j = Q.length := by omega
    repeat' (first | (first | refine Ya ?_ | refine Yb ?_ | refine Yc ?_ | refine Yd ?_ | refine Ye ?_ | refine Yf ?_ | refine Yg ?_ | refine Yh ?_ | refine Yi ?_ | refine Yj ?_ | refine Yk ?_ | refine Yl ?_ | refine Ym ?_ | refine Yn ?_ | refine Yo ?_ | refine Yp (h := ?_) | refine Yq ?_ | refine Yr ?_ | refine Ys ?_ | refine Zr hc (hk := ?_) | refine Zd hc (hk := ?_) | (refine Zc (ht := fun hb => ?_) (hf := fun hb => ?_) <;> (try simp at hb)) | fail) | (first | refine Zw hc (hf := by exact hAp) (hk := ?_) | refine Zq hc (hf := by exact hAp) (hk := ?_) | refine Zo hc (hk := ?_) | refine Zu hc (hk := ?_) | refine Ze hc (hk := ?_) | refine Zn hc (hk := ?_) | fail))
    all_goals try contradiction
    all_goals try (exfalso; omega)
    (refine Zl hc (hr := ?_))
    simp
theorem byEq_ok (p : Bs) : FnOk Tryz.prog 10 [byS p, byS p] (tru true) := by
  refine fnOk Tryz.func10 rfl (by kernel_rfl) Tryz.ntmps10 _ rfl (by simp) fun C hc => ?_
  repeat' (first | (first | refine Ya ?_ | refine Yb ?_ | refine Yc ?_ | refine Yd ?_ | refine Ye ?_ | refine Yf ?_ | refine Yg ?_ | refine Yh ?_ | refine Yi ?_ | refine Yj ?_ | refine Yk ?_ | refine Yl ?_ | refine Ym ?_ | refine Yn ?_ | refine Yo ?_ | refine Yp (h := ?_) | refine Yq ?_ | refine Yr ?_ | refine Ys ?_ | refine Zr hc (hk := ?_) | refine Zd hc (hk := ?_) | (refine Zc (ht := fun hb => ?_) (hf := fun hb => ?_) <;> (try simp at hb)) | fail) | (first | refine Zo hc (hk := ?_) | refine Zu hc (hk := ?_) | refine Ze hc (hk := ?_) | refine Zn hc (hk := ?_) | fail))
  (refine Zl hc (hr := ?_))
  simp
theorem turnsNone_ok (p : Bs) (a : Adr) (T : List Trn) (hm : p.length ≤ maxLen) (ha : a.Fits) (hT : TrnFits T) : FnOk Tryz.prog 4 [byS p, adrD a, trnSl T] (tru true) := by
  have h1 := rewrite_ok p a T hm ha hT
  have h2 : FnOk Tryz.prog 9 [byS p, adrD a, nilSl] (rwD p a []) := FnOk.args (m := [byS p, adrD a, trnSl []]) rfl (fun i e hi => by
    match i, hi with
    | 0, hi => cases hi; exact ⟨_, rfl, Weak.refl _⟩
    | 1, hi => cases hi; exact ⟨_, rfl, Weak.refl _⟩
    | 2, hi => cases hi; exact ⟨_, rfl, weak_nil _⟩) (rewrite_ok p a [] hm ha (fun i => by simp [trnAt]))
  have h3 : FnOk Tryz.prog 11 [byS p, adrD a, nilSl] (if stE p a = 0 then .tup [byS p, int 0, int 0] else .tup [nilSl, int 0, int (stE p a)]) := FnOk.args (m := [byS p, adrD a, trnSl []]) rfl (fun i e hi => by
    match i, hi with
    | 0, hi => cases hi; exact ⟨_, rfl, Weak.refl _⟩
    | 1, hi => cases hi; exact ⟨_, rfl, Weak.refl _⟩
    | 2, hi => cases hi; exact ⟨_, rfl, weak_nil _⟩) (rewStyle_ok p a hm ha)
  refine fnOk Tryz.func4 rfl (by kernel_rfl) Tryz.ntmps4 _ rfl (by simp) fun C hc => ?_
  unfold maxLen at hm
  have hE := byEq_ok p
  by_cases h : fdE p a = 0
  rotate_left
  · unfold rwD at h1 h2
    rw [if_pos h] at h1 h2
    repeat' (first | (first | refine Ya ?_ | refine Yb ?_ | refine Yc ?_ | refine Yd ?_ | refine Ye ?_ | refine Yf ?_ | refine Yg ?_ | refine Yh ?_ | refine Yi ?_ | refine Yj ?_ | refine Yk ?_ | refine Yl ?_ | refine Ym ?_ | refine Yn ?_ | refine Yo ?_ | refine Yp (h := ?_) | refine Yq ?_ | refine Yr ?_ | refine Ys ?_ | refine Zr hc (hk := ?_) | refine Zd hc (hk := ?_) | (refine Zc (ht := fun hb => ?_) (hf := fun hb => ?_) <;> (try simp at hb)) | fail) | (first | refine run_callW hc (by simp; exact Gives.mk) (by simp; exact Gives.mk) (by simp; exact Gives.mk) (by simp; exact Gives.mk) (by simp; exact Gives.mk) (fun _ => by first | exact h1 | exact h2 | exact awake3_ok | exact (show FnOk _ _ _ (tru false) from by exfalso; first | omega | (simp_all; done) | (simp_all; omega))) (by simp) (by simp) ?_ | refine run_callQ hc (by simp; exact Gives.mk) (by simp; exact Gives.mk) (by simp; exact Gives.mk) (by simp; exact Gives.mk) (by simp; exact Gives.mk) (fun _ => by first | exact h1 | exact h2 | exact awake3_ok | exact (show FnOk _ _ _ (tru false) from by exfalso; first | omega | (simp_all; done) | (simp_all; omega))) (by simp) (by simp) ?_ | refine run_ops hc (by simp; first | exact Ends.go | exact Ends.halt) (by decide) (by first | exact True.intro | omega | assumption | (simp; done) | (simp; omega) | (simp at *; omega)) ?_ | refine run_quiet hc (by simp; first | exact Ends.go | exact Ends.halt) (by decide) (by first | exact True.intro | omega | assumption | (simp; done) | (simp; omega) | (simp at *; omega)) ?_ | refine run_regionW hc (by simp; exact Ends.halt) (by first | exact True.intro | omega | assumption | (simp; done) | (simp; omega) | (simp at *; omega)) ?_ | refine run_drawN hc (by kernel_rfl) (by decide) (by kernel_rfl) (by simp; exact Ends.halt) (by first | exact True.intro | omega | assumption | (simp; done) | (simp; omega) | (simp at *; omega)) ?_ | fail))
    all_goals try contradiction
    (refine Zl hc (hr := ?_))
    simp
  have hR2 : rwD p a [] = .tup [byS p, int 0, int 0] := by
    have hn : (edF p a []).n = 0 := edGo_nil p _ _ _
    obtain ⟨-, hin, -⟩ := edF_ok p a [] trnE_nil h
    have hl := hin.less
    have hz : (edF p a []).E = [] := List.length_eq_zero_iff.1 (by omega)
    unfold rwD
    rw [if_neg (fun e => e h), if_neg (fun e => e trnE_nil), hz, appR_nil, if_neg (by have := (fdE_zero h).1.1; omega), hn]
    rfl
  rw [hR2] at h2
  have hR1 : (∃ f : Nat, f ≠ 0 ∧ rwD p a T = .tup [nilSl, int 0, int f]) ∨ rwD p a T = .tup [byS p, int 0, int 0] ∨ ∃ (x : Bs) (n : Nat), n ≠ 0 ∧ rwD p a T = .tup [byS x, int n, int 0] := by
    unfold rwD
    rw [if_neg (fun e => e h)]
    by_cases hE0 : trnE T = 0
    rotate_left
    · rw [if_pos hE0]; exact .inl ⟨_, hE0, rfl⟩
    rw [if_neg (fun e => e hE0)]
    by_cases hb2 : 200000 < (appR p (edF p a T).E).length
    · rw [if_pos hb2]; exact .inl ⟨2, by decide, rfl⟩
    rw [if_neg hb2]
    by_cases hn : (edF p a T).n = 0
    · obtain ⟨-, hin, -⟩ := edF_ok p a T hE0 h
      have hl := hin.less
      have hz : (edF p a T).E = [] := List.length_eq_zero_iff.1 (by omega)
      rw [hz, appR_nil, hn]
      exact .inr (.inl rfl)
    · exact .inr (.inr ⟨_, _, hn, rfl⟩)
  have hS : (∃ f : Nat, f ≠ 0 ∧ (if stE p a = 0 then D.tup [byS p, int 0, int 0] else .tup [nilSl, int 0, int (stE p a)]) = .tup [nilSl, int 0, int f]) ∨ (if stE p a = 0 then D.tup [byS p, int 0, int 0] else .tup [nilSl, int 0, int (stE p a)]) = .tup [byS p, int 0, int 0] := by
    by_cases h0 : stE p a = 0
    · rw [if_pos h0]; exact .inr rfl
    · rw [if_neg h0]; exact .inl ⟨_, h0, rfl⟩
  rcases hR1 with ⟨f, hf, hR1⟩ | hR1 | ⟨x, n, hn, hR1⟩ <;> rw [hR1] at h1 <;> rcases hS with ⟨g, hg, hS⟩ | hS <;> rw [hS] at h3
  all_goals repeat' (first | (first | refine Ya ?_ | refine Yb ?_ | refine Yc ?_ | refine Yd ?_ | refine Ye ?_ | refine Yf ?_ | refine Yg ?_ | refine Yh ?_ | refine Yi ?_ | refine Yj ?_ | refine Yk ?_ | refine Yl ?_ | refine Ym ?_ | refine Yn ?_ | refine Yo ?_ | refine Yp (h := ?_) | refine Yq ?_ | refine Yr ?_ | refine Ys ?_ | refine Zr hc (hk := ?_) | refine Zd hc (hk := ?_) | (refine Zc (ht := fun hb => ?_) (hf := fun hb => ?_) <;> (try simp at hb)) | fail) | (first | refine run_callW hc (by simp; exact Gives.mk) (by simp; exact Gives.mk) (by simp; exact Gives.mk) (by simp; exact Gives.mk) (by simp; exact Gives.mk) (fun _ => by first | exact h1 | exact h2 | exact h3 | exact hE | exact awake3_ok | exact (show FnOk _ _ _ (tru false) from by exfalso; first | omega | (simp_all; done) | (simp_all; omega))) (by simp) (by simp) ?_ | refine run_callQ hc (by simp; exact Gives.mk) (by simp; exact Gives.mk) (by simp; exact Gives.mk) (by simp; exact Gives.mk) (by simp; exact Gives.mk) (fun _ => by first | exact h1 | exact h2 | exact h3 | exact hE | exact awake3_ok | exact (show FnOk _ _ _ (tru false) from by exfalso; first | omega | (simp_all; done) | (simp_all; omega))) (by simp) (by simp) ?_ | refine run_ops hc (by simp; first | exact Ends.go | exact Ends.halt) (by decide) (by first | exact True.intro | omega | assumption | (simp; done) | (simp; omega) | (simp at *; omega)) ?_ | refine run_quiet hc (by simp; first | exact Ends.go | exact Ends.halt) (by decide) (by first | exact True.intro | omega | assumption | (simp; done) | (simp; omega) | (simp at *; omega)) ?_ | refine run_regionW hc (by simp; exact Ends.halt) (by first | exact True.intro | omega | assumption | (simp; done) | (simp; omega) | (simp at *; omega)) ?_ | refine run_drawN hc (by kernel_rfl) (by decide) (by kernel_rfl) (by simp; exact Ends.halt) (by first | exact True.intro | omega | assumption | (simp; done) | (simp; omega) | (simp at *; omega)) ?_ | fail))
  all_goals try contradiction
  all_goals try (exfalso; omega)
  all_goals (refine Zl hc (hr := ?_))
  all_goals simp
  all_goals assumption
def TrnIn (x : Trn) : Prop := x.1.length ≤ reachBytes ∧ x.2.length ≤ reachBytes
theorem opn_trn : Opn Tryz.prog 92 trnC TrnIn :=
  (opn_flds (total := 2) Tryz.underlying92 rfl (by kernel_rfl) (flds_cons (n := 1) (by kernel_rfl) (by simp) opn_sW (flds_cons (n := 1) (by kernel_rfl) (by simp) opn_sW flds_nil))).map
    (fun x => ((x.1, x.2.1) : Trn)) (fun _ _ => rfl) (fun _ h => ⟨h.1, h.2.1⟩)
def TrnsIn (l : List Trn) : Prop := l.length ≤ maxLen ∧ ∀ x ∈ l, TrnIn x
theorem opnA_trns : OpnA Tryz.prog 37 trnSl TrnsIn :=
  opnA_cell ((opn_slice (([], []) : Trn) Tryz.underlying37 (n := 2) (by kernel_rfl) (by omega) opn_trn).map (fun l => l) (fun l _ => by simp [trnAt, trnSl]) (fun _ h => h)) (fun _ => rfl) (by kernel_rfl)
theorem trnsFit {T : List Trn} (h : TrnsIn T) : TrnFits T := fun i => by
  by_cases hi : i < T.length
  · have := h.2 _ (List.getElem_mem hi)
    unfold TrnIn reachBytes at this
    unfold trnAt
    rw [List.getElem?_eq_getElem hi]
    exact ⟨by have := this.1; simp only [Option.getD_some]; omega, by have := this.2; simp only [Option.getD_some]; omega⟩
  · unfold trnAt
    rw [List.getElem?_eq_none (by omega)]
    simp
end Go.Proofs.YtjbabjfmcganpaaGreatDoor
