/-
  SORTING numbers by a strict order of all: what is sorted is one list; merging, blocks, insertion (plain law).
-/
import Derived.Test.YtnainpghpjelcaaGreatDoorLwRun
import Derived.Test.YtnainpghpjelcaaGreatDoorLibS
import Derived.Test.YtnainpghpjelcaaGreatDoorOwnD
import Derived.Test.YtnainpghpjelcaaGreatDoorLwCalm
set_option linter.unusedSimpArgs false
set_option linter.unusedVariables false
namespace Go.Proofs.YtnainpghpjelcaaGreatDoor
set_option maxRecDepth 100000
set_option maxHeartbeats 400000

/-- A strict order of all numbers. -/
structure Lts (lt : Int → Int → Bool) : Prop where
  irr : ∀ x, lt x x = false
  tr : ∀ x y z, lt x y = true → lt y z = true → lt x z = true
  tot : ∀ x y, x ≠ y → lt x y = true ∨ lt y x = true
abbrev Srt (lt : Int → Int → Bool) (l : List Int) : Prop := l.Pairwise fun x y => lt x y = true
def srt (lt : Int → Int → Bool) (l : List Int) : List Int := l.mergeSort fun x y => !lt y x
section
variable {lt : Int → Int → Bool}
theorem Lts.asym (h : Lts lt) {x y : Int} (h1 : lt x y = true) : lt y x = false := Bool.eq_false_iff.2 fun e => by
  have := h.tr x y x h1 e
  rw [h.irr] at this; cases this
theorem srt_perm (l : List Int) : (srt lt l).Perm l := List.mergeSort_perm _ _
theorem srt_length (l : List Int) : (srt lt l).length = l.length := (srt_perm l).length_eq
theorem srt_mem {l : List Int} {x : Int} : x ∈ srt lt l ↔ x ∈ l := (srt_perm l).mem_iff
theorem srt_weak (h : Lts lt) (l : List Int) : (srt lt l).Pairwise fun x y => (!lt y x) = true :=
  List.pairwise_mergeSort (fun x y z h1 h2 => by
    simp only [Bool.not_eq_true'] at h1 h2 ⊢
    refine Bool.eq_false_iff.2 fun h3 => ?_
    rcases Classical.em (x = y) with rfl | hne
    · rw [h3] at h2; cases h2
    rcases h.tot x y hne with h4 | h4
    · have := h.tr z x y h3 h4
      rw [this] at h2; cases h2
    · rw [h4] at h1; cases h1) (fun x y => by
    rw [Bool.or_eq_true]
    by_cases e : lt y x = true
    · right; rw [h.asym e]; rfl
    · left; rw [Bool.eq_false_iff.2 e]; rfl) l
/-- What is sorted is one list. -/
theorem srt_eq (h : Lts lt) {e d : List Int} (hs : Srt lt e) (hp : e.Perm d) : e = srt lt d := by
  refine List.Perm.eq_of_pairwise (le := fun x y => (!lt y x) = true) (fun a b _ _ h1 h2 => ?_) (hs.imp fun h1 => by rw [h.asym h1]; rfl) (srt_weak h d) (hp.trans (srt_perm d).symm)
  refine Classical.byContradiction fun hne => ?_
  simp only [Bool.not_eq_true'] at h1 h2
  rcases h.tot a b hne with h3 | h3
  · rw [h3] at h2; cases h2
  · rw [h3] at h1; cases h1
theorem srt_srt (h : Lts lt) {l : List Int} (hn : l.Nodup) : Srt lt (srt lt l) := by
  have h1 := srt_weak h l
  have h2 : (srt lt l).Pairwise fun x y => x ≠ y := (srt_perm l).nodup_iff.2 hn
  refine (h1.and h2).imp fun {a b} ⟨h3, h4⟩ => ?_
  rcases h.tot a b h4 with h5 | h5
  · exact h5
  · rw [h5] at h3; cases h3
theorem srt_of_perm (h : Lts lt) {l l' : List Int} (hn : l.Nodup) (hp : l.Perm l') : srt lt l = srt lt l' := srt_eq h (srt_srt h hn) ((srt_perm l).trans hp)
theorem Srt.nodup (h : Lts lt) {l : List Int} (hs : Srt lt l) : l.Nodup := hs.imp fun {a b} h1 e => by
  subst e; rw [h.irr] at h1; cases h1
theorem srt_self (h : Lts lt) {l : List Int} (hs : Srt lt l) : srt lt l = l := (srt_eq h hs (List.Perm.refl l)).symm
theorem srt_nil : srt lt [] = [] := List.eq_nil_of_length_eq_zero (by rw [srt_length]; rfl)
theorem srt_one (x : Int) : srt lt [x] = [x] := by
  have := srt_perm (lt := lt) [x]
  exact List.perm_singleton.1 this
/-- All of one list stand ahead of all of another one. -/
abbrev Ahead (lt : Int → Int → Bool) (l l' : List Int) : Prop := ∀ x ∈ l, ∀ y ∈ l', lt x y = true
theorem Srt.app {l l' : List Int} (h1 : Srt lt l) (h2 : Srt lt l') (h3 : Ahead lt l l') : Srt lt (l ++ l') := List.pairwise_append.2 ⟨h1, h2, h3⟩
theorem ahead_of_ends (h : Lts lt) {l l' : List Int} {x y : Int} (h1 : Srt lt (l ++ [x])) (h2 : Srt lt (y :: l')) (h3 : lt x y = true) : Ahead lt (l ++ [x]) (y :: l') := by
  intro a ha b hb
  have hax : a = x ∨ lt a x = true := by
    rcases List.mem_append.1 ha with ha | ha
    · exact .inr ((List.pairwise_append.1 h1).2.2 a ha x (by simp))
    · exact .inl (by simpa using ha)
  have hyb : b = y ∨ lt y b = true := by
    rcases List.mem_cons.1 hb with hb | hb
    · exact .inl hb
    · exact .inr ((List.pairwise_cons.1 h2).1 b hb)
  rcases hax with rfl | hax <;> rcases hyb with rfl | hyb
  · exact h3
  · exact h.tr _ _ _ h3 hyb
  · exact h.tr _ _ _ hax h3
  · exact h.tr _ _ _ hax (h.tr _ _ _ h3 hyb)
/-- The merge's step: of two sorted rows, cut so that what stands ahead in both comes ahead. -/
theorem merge_step (h : Lts lt) {u v w z : List Int} (h1 : Srt lt (u ++ v)) (h2 : Srt lt (w ++ z)) (hn : (u ++ v ++ (w ++ z)).Nodup) (h3 : Ahead lt u z) (h4 : Ahead lt w v) :
    srt lt (u ++ w) ++ srt lt (v ++ z) = srt lt ((u ++ v) ++ (w ++ z)) := by
  have k1 := List.pairwise_append.1 h1
  have k2 := List.pairwise_append.1 h2
  have n1 : (u ++ w ++ (v ++ z)).Nodup := by
    refine List.Perm.nodup ?_ hn
    simp only [List.append_assoc]
    refine List.Perm.append_left u ?_
    rw [← List.append_assoc, ← List.append_assoc]
    exact List.Perm.append_right z List.perm_append_comm
  have n2 := List.nodup_append.1 n1
  refine srt_eq h (Srt.app (srt_srt h n2.1) (srt_srt h n2.2.1) ?_) ?_
  · intro x hx y hy
    rw [srt_mem, List.mem_append] at hx hy
    rcases hx with hx | hx <;> rcases hy with hy | hy
    · exact k1.2.2 x hx y hy
    · exact h3 x hx y hy
    · exact h4 x hx y hy
    · exact k2.2.2 x hx y hy
  · refine ((srt_perm _).append (srt_perm _)).trans ?_
    simp only [List.append_assoc]
    refine List.Perm.append_left u ?_
    rw [← List.append_assoc, ← List.append_assoc]
    exact List.Perm.append_right z List.perm_append_comm
/-- One number put into its place. -/
theorem put_one (h : Lts lt) {u v : List Int} {x : Int} (h1 : Srt lt (u ++ v)) (hx : ¬ x ∈ u ++ v) (h2 : ∀ y ∈ u, lt y x = true) (h3 : ∀ y ∈ v, lt x y = true) {d : List Int} (hd : (x :: (u ++ v)).Perm d) : u ++ x :: v = srt lt d := by
  have k := List.pairwise_append.1 h1
  refine srt_eq h (List.pairwise_append.2 ⟨k.1, List.pairwise_cons.2 ⟨h3, k.2.1⟩, fun a ha b hb => ?_⟩) (List.perm_middle.trans hd)
  rcases List.mem_cons.1 hb with rfl | hb
  · exact h2 a ha
  · exact k.2.2 a ha b hb
/-- Blocks, each sorted. -/
def blk (lt : Int → Int → Bool) (n : Nat) (d : List Int) : List Int :=
  if h : d = [] ∨ n = 0 then d else srt lt (d.take n) ++ blk lt n (d.drop n)
termination_by d.length
decreasing_by
  have : d.length ≠ 0 := fun e => h (.inl (List.eq_nil_of_length_eq_zero e))
  simp only [List.length_drop]; omega
theorem blk_length (n : Nat) (d : List Int) : (blk lt n d).length = d.length := by
  rw [blk]
  split
  · rfl
  · rename_i h
    have : d.length ≠ 0 := fun e => h (.inl (List.eq_nil_of_length_eq_zero e))
    rw [List.length_append, srt_length, blk_length n (d.drop n), ← List.length_append, List.take_append_drop]
termination_by d.length
decreasing_by simp only [List.length_drop]; omega
theorem blk_nil (n : Nat) : blk lt n [] = [] := by rw [blk, dif_pos (.inl rfl)]
theorem blk_one {n : Nat} {d : List Int} (h0 : 0 < n) (h : d.length ≤ n) : blk lt n d = srt lt d := by
  by_cases hd : d = []
  · subst hd; rw [blk_nil, srt_nil]
  · rw [blk, dif_neg (fun e => e.elim hd (by omega)), List.take_of_length_le h, List.drop_eq_nil_of_le h, blk_nil, List.append_nil]
theorem blk_more {n : Nat} {d : List Int} (h0 : 0 < n) (h : n ≤ d.length) : blk lt n d = srt lt (d.take n) ++ blk lt n (d.drop n) := by
  by_cases hd : d = []
  · subst hd; simp at h; omega
  · rw [blk, dif_neg (fun e => e.elim hd (by omega))]
theorem blk_two {n : Nat} {d : List Int} (h0 : 0 < n) (h : n ≤ d.length) (h2 : d.length ≤ 2 * n) : blk lt n d = srt lt (d.take n) ++ srt lt (d.drop n) := by
  rw [blk_more h0 h, blk_one h0 (by simp; omega)]
/-- Two blocks ahead become one. -/
theorem blk_pair (h : Lts lt) {n : Nat} {d : List Int} (hn : d.Nodup) (h0 : 0 < n) (h2 : 2 * n ≤ d.length) :
    blk lt n d = srt lt (d.take n) ++ srt lt ((d.drop n).take n) ++ blk lt n (d.drop (2 * n)) ∧ blk lt (2 * n) d = srt lt (srt lt (d.take n) ++ srt lt ((d.drop n).take n)) ++ blk lt (2 * n) (d.drop (2 * n)) := by
  constructor
  · rw [blk_more h0 (by omega), blk_more h0 (by simp; omega), List.drop_drop, List.append_assoc, show n + n = 2 * n by omega]
  · rw [blk_more (by omega) h2]
    congr 1
    have e : d.take (2 * n) = d.take n ++ (d.drop n).take n := by
      rw [show 2 * n = n + n by omega, List.take_add]
    rw [e]
    refine srt_of_perm h ?_ ((srt_perm _).symm.append (srt_perm _).symm)
    rw [← e]
    exact hn.sublist (List.take_sublist _ _)
theorem blk_tail (h : Lts lt) {n : Nat} {d : List Int} (hn : d.Nodup) (h0 : 0 < n) (h1 : n ≤ d.length) (h2 : d.length ≤ 2 * n) : srt lt (srt lt (d.take n) ++ srt lt (d.drop n)) = blk lt (2 * n) d := by
  rw [blk_one (by omega) h2]
  refine (srt_of_perm h hn ?_).symm
  exact (List.Perm.of_eq (List.take_append_drop n d).symm).trans ((srt_perm _).symm.append (srt_perm _).symm)
/-! A row of which two parts are changed about. -/
theorem set_mid (p s : List Int) (x y : Int) : (p ++ x :: s).set p.length y = p ++ y :: s := by
  rw [List.set_append_right _ _ (Nat.le_refl _), Nat.sub_self, List.set_cons_zero]
theorem get_mid (p s : List Int) (x : Int) : (p ++ x :: s)[p.length]?.getD 0 = x := by
  rw [List.getElem?_append_right (Nat.le_refl _), Nat.sub_self]; rfl
end
end Go.Proofs.YtnainpghpjelcaaGreatDoor
/-
  SORTING: rows of which parts change places; the merge's cut (plain law).
-/
set_option linter.unusedSimpArgs false
set_option linter.unusedVariables false
namespace Go.Proofs.YtnainpghpjelcaaGreatDoor
set_option maxRecDepth 100000
set_option maxHeartbeats 400000

/-- Two places of a row change their numbers. -/
def swp (l : List Int) (i j : Nat) : List Int := (l.set i (l[j]?.getD 0)).set j (l[i]?.getD 0)
theorem swp_mid (u v w : List Int) (x z : Int) : swp (u ++ x :: (v ++ z :: w)) u.length (u.length + 1 + v.length) = u ++ z :: (v ++ x :: w) := by
  unfold swp
  have e1 : (u ++ x :: (v ++ z :: w))[u.length]?.getD 0 = x := get_mid u _ x
  have e2 : (u ++ x :: (v ++ z :: w))[u.length + 1 + v.length]?.getD 0 = z := by
    have h := get_mid (u ++ x :: v) w z
    rw [show (u ++ x :: v).length = u.length + 1 + v.length by simp; omega] at h
    have e : u ++ x :: (v ++ z :: w) = (u ++ x :: v) ++ z :: w := by simp
    rw [e]; exact h
  rw [e1, e2, set_mid]
  have h := set_mid (u ++ z :: v) w z x
  rw [show (u ++ z :: v).length = u.length + 1 + v.length by simp; omega] at h
  have e3 : u ++ z :: (v ++ z :: w) = (u ++ z :: v) ++ z :: w := by simp
  rw [e3, h]
  simp
theorem swp_next (u w : List Int) (x z : Int) : swp (u ++ x :: z :: w) u.length (u.length + 1) = u ++ z :: x :: w := by
  have := swp_mid u [] w x z
  simpa using this
/-- The row behind i steps of swapRange. -/
def swS (p x y z s : List Int) (i : Nat) : List Int := p ++ (z.take i ++ x.drop i) ++ y ++ (x.take i ++ z.drop i) ++ s
theorem swS_step (p x y z s : List Int) {i : Nat} (hl : x.length = z.length) (hi : i < x.length) : swp (swS p x y z s i) (p.length + i) (p.length + x.length + y.length + i) = swS p x y z s (i + 1) := by
  have hx : x.drop i = x[i] :: x.drop (i + 1) := List.drop_eq_getElem_cons hi
  have hz : z.drop i = z[i] :: z.drop (i + 1) := List.drop_eq_getElem_cons (by omega)
  have tx : x.take (i + 1) = x.take i ++ [x[i]] := by rw [List.take_succ_eq_append_getElem hi]
  have tz : z.take (i + 1) = z.take i ++ [z[i]] := by rw [List.take_succ_eq_append_getElem (by omega)]
  have h := swp_mid (p ++ z.take i) (x.drop (i + 1) ++ y ++ x.take i) (z.drop (i + 1) ++ s) x[i] z[i]
  have l1 : (p ++ z.take i).length = p.length + i := by simp; omega
  have l2 : (p ++ z.take i).length + 1 + (x.drop (i + 1) ++ y ++ x.take i).length = p.length + x.length + y.length + i := by simp; omega
  rw [l2, l1] at h
  unfold swS
  rw [hx, hz, tx, tz]
  have e1 : p ++ (z.take i ++ x[i] :: x.drop (i + 1)) ++ y ++ (x.take i ++ z[i] :: z.drop (i + 1)) ++ s = p ++ z.take i ++ x[i] :: (x.drop (i + 1) ++ y ++ x.take i ++ z[i] :: (z.drop (i + 1) ++ s)) := by simp only [List.append_assoc, List.cons_append, List.nil_append]
  rw [e1, h]
  simp only [List.append_assoc, List.cons_append, List.nil_append]
theorem swS_zero (p x y z s : List Int) : swS p x y z s 0 = p ++ x ++ y ++ z ++ s := by unfold swS; simp
theorem swS_end (p x y z s : List Int) {n : Nat} (h1 : x.length = n) (h2 : z.length = n) : swS p x y z s n = p ++ z ++ y ++ x ++ s := by
  unfold swS
  rw [List.take_of_length_le (by omega), List.take_of_length_le (by omega), List.drop_eq_nil_of_le (by omega), List.drop_eq_nil_of_le (by omega)]
  simp
theorem swS_len (p x y z s : List Int) (i : Nat) (hl : x.length = z.length) : (swS p x y z s i).length = p.length + x.length + y.length + z.length + s.length := by
  unfold swS; simp; omega
section
variable {lt : Int → Int → Bool}
/-- Where a number belongs in a sorted row. -/
theorem cut_at (h : Lts lt) {b : List Int} {x : Int} {k : Nat} (hs : Srt lt b) (hk : k ≤ b.length) (h1 : 0 < k → lt (b[k - 1]?.getD 0) x = true) (h2 : k < b.length → lt x (b[k]?.getD 0) = true) : (∀ y ∈ b.take k, lt y x = true) ∧ (∀ y ∈ b.drop k, lt x y = true) := by
  rw [Srt, List.pairwise_iff_getElem] at hs
  constructor
  · intro y hy
    obtain ⟨j, hj⟩ := List.mem_iff_getElem?.1 hy
    rw [List.getElem?_take] at hj
    split at hj
    · rename_i hjk
      have hjl := (List.getElem?_eq_some_iff.1 hj).1
      have h1 := h1 (by omega)
      rw [List.getElem?_eq_getElem (show k - 1 < b.length by omega), Option.getD_some] at h1
      have ey : b[j] = y := (List.getElem?_eq_some_iff.1 hj).2
      rcases Nat.lt_or_ge j (k - 1) with h3 | h3
      · have := hs j (k - 1) hjl (by omega) h3
        rw [ey] at this
        exact h.tr _ _ _ this h1
      · have e : b[k - 1]'(by omega) = y := by rw [← ey]; congr 1; omega
        rw [← e]; exact h1
    · cases hj
  · intro y hy
    obtain ⟨j, hj⟩ := List.mem_iff_getElem?.1 hy
    rw [List.getElem?_drop] at hj
    have hjl := (List.getElem?_eq_some_iff.1 hj).1
    have ey : b[k + j] = y := (List.getElem?_eq_some_iff.1 hj).2
    have h2 := h2 (by omega)
    rw [List.getElem?_eq_getElem (show k < b.length by omega), Option.getD_some] at h2
    rcases Nat.eq_or_lt_of_le (Nat.zero_le j) with h3 | h3
    · have e : b[k]'(by omega) = y := by rw [← ey]; congr 1; omega
      rw [← e]; exact h2
    · have := hs k (k + j) (by omega) hjl (by omega)
      rw [ey] at this
      exact h.tr _ _ _ h2 this
/-- One number ahead of a sorted row, put in. -/
theorem put_first (h : Lts lt) {b : List Int} {x : Int} {k : Nat} (hs : Srt lt b) (hk : k ≤ b.length) (h1 : 0 < k → lt (b[k - 1]?.getD 0) x = true) (h2 : k < b.length → lt x (b[k]?.getD 0) = true) : b.take k ++ x :: b.drop k = srt lt ([x] ++ b) := by
  obtain ⟨k1, k2⟩ := cut_at h hs hk h1 h2
  have hs' : Srt lt (b.take k ++ b.drop k) := by rw [List.take_append_drop]; exact hs
  refine put_one h hs' ?_ k1 k2 (by rw [List.take_append_drop]; exact List.Perm.refl _)
  intro hm
  rcases List.mem_append.1 hm with hm | hm
  · have := k1 x hm; rw [h.irr] at this; cases this
  · have := k2 x hm; rw [h.irr] at this; cases this
theorem put_last (h : Lts lt) {a : List Int} {x : Int} {k : Nat} (hs : Srt lt a) (hk : k ≤ a.length) (h1 : 0 < k → lt (a[k - 1]?.getD 0) x = true) (h2 : k < a.length → lt x (a[k]?.getD 0) = true) : a.take k ++ x :: a.drop k = srt lt (a ++ [x]) := by
  obtain ⟨k1, k2⟩ := cut_at h hs hk h1 h2
  have hs' : Srt lt (a.take k ++ a.drop k) := by rw [List.take_append_drop]; exact hs
  refine put_one h hs' ?_ k1 k2 (by rw [List.take_append_drop]; exact (List.perm_append_singleton x a).symm)
  intro hm
  rcases List.mem_append.1 hm with hm | hm
  · have := k1 x hm; rw [h.irr] at this; cases this
  · have := k2 x hm; rw [h.irr] at this; cases this
/-- Sorted, where one of two sorted rows is empty, or both follow each other. -/
theorem half_sorted (h : Lts lt) {u w : List Int} (h1 : Srt lt u) (h2 : Srt lt w) (he : u = [] ∨ w = []) : u ++ w = srt lt (u ++ w) := by
  rcases he with rfl | rfl
  · rw [List.nil_append, srt_self h h2]
  · rw [List.append_nil, srt_self h h1]
/-- The merge's cut: of two sorted rows, at places that are told by two numbers. -/
theorem cut_two (h : Lts lt) {a b : List Int} {i j : Nat} (ha : Srt lt a) (hb : Srt lt b) (hi : i ≤ a.length) (hj : j ≤ b.length) (hn : (a ++ b).Nodup)
    (h1 : 0 < i → j < b.length → lt (a[i - 1]?.getD 0) (b[j]?.getD 0) = true) (h2 : i < a.length → 0 < j → lt (b[j - 1]?.getD 0) (a[i]?.getD 0) = true) :
    srt lt (a.take i ++ b.take j) ++ srt lt (a.drop i ++ b.drop j) = srt lt (a ++ b) := by
  have ea := List.take_append_drop i a
  have eb := List.take_append_drop j b
  have hA : Srt lt (a.take i ++ a.drop i) := by rw [ea]; exact ha
  have hB : Srt lt (b.take j ++ b.drop j) := by rw [eb]; exact hb
  have key : ∀ {p q : List Int}, Srt lt p → Srt lt q → (∀ x y, p.getLast? = some x → q.head? = some y → lt x y = true) → Ahead lt p q := by
    intro p q hp hq hl x hx y hy
    rcases List.eq_nil_or_concat p with rfl | ⟨p', z, rfl⟩
    · cases hx
    · cases q with
      | nil => cases hy
      | cons w q' =>
        rw [List.concat_eq_append] at hx hp
        exact ahead_of_ends h hp hq (hl z w (by simp) (by simp)) x hx y hy
  have s1 := List.pairwise_append.1 hA
  have s2 := List.pairwise_append.1 hB
  have := merge_step h hA hB (by rw [ea, eb]; exact hn) (key s1.1 s2.2.1 fun x y hx hy => ?_) (key s2.1 s1.2.1 fun x y hx hy => ?_)
  · rw [this, ea, eb]
  · have i0 : 0 < i := by
      rcases Nat.eq_zero_or_pos i with rfl | h0
      · simp at hx
      · exact h0
    have jl : j < b.length := by
      rcases Nat.lt_or_ge j b.length with h0 | h0
      · exact h0
      · rw [List.drop_eq_nil_of_le h0] at hy; cases hy
    have e1 : a[i - 1]?.getD 0 = x := by
      rw [List.getLast?_eq_getElem?, List.getElem?_take, List.length_take, Nat.min_eq_left hi, if_pos (by omega)] at hx
      rw [hx]; rfl
    have e2 : b[j]?.getD 0 = y := by
      rw [List.head?_eq_getElem?, List.getElem?_drop, Nat.add_zero] at hy
      rw [hy]; rfl
    rw [← e1, ← e2]
    exact h1 i0 jl
  · have j0 : 0 < j := by
      rcases Nat.eq_zero_or_pos j with rfl | h0
      · simp at hx
      · exact h0
    have il : i < a.length := by
      rcases Nat.lt_or_ge i a.length with h0 | h0
      · exact h0
      · rw [List.drop_eq_nil_of_le h0] at hy; cases hy
    have e1 : b[j - 1]?.getD 0 = x := by
      rw [List.getLast?_eq_getElem?, List.getElem?_take, List.length_take, Nat.min_eq_left hj, if_pos (by omega)] at hx
      rw [hx]; rfl
    have e2 : a[i]?.getD 0 = y := by
      rw [List.head?_eq_getElem?, List.getElem?_drop, Nat.add_zero] at hy
      rw [hy]; rfl
    rw [← e1, ← e2]
    exact h2 il j0
end
end Go.Proofs.YtnainpghpjelcaaGreatDoor
/-
  SORTING: slices.SortStableFunc's parts at numbers: swapRange, rotate, insertion. (WITH run_drawN.)
-/
set_option linter.unusedSimpArgs false
set_option linter.unusedVariables false
namespace Go.Proofs.YtnainpghpjelcaaGreatDoor
open Go.Lw Go.RowKit
set_option maxRecDepth 100000
set_option maxHeartbeats 4000000

@[simp] theorem row_i3 (o : Option Int) : (Option.map (fun y => [int y]) o).getD [int 0] = [int (o.getD 0)] := by cases o <;> rfl
abbrev obI (L : List Int) : Nat × O := (100000, .own 3 1 (true, [int 0]) (L.map fun y => [int y]))
abbrev noV : V := .d (.tup [])
theorem row_tail (L : List Int) (a b : Nat) (x : Int) : ((((L.map fun y => [int y]).set a [int x])[b]?.getD [int 0]).tail) = [] := by
  rw [List.getElem?_set]
  split
  · split <;> rfl
  · rw [List.getElem?_map]
    cases L[b]? <;> rfl
theorem swp_map (L : List Int) (i j : Nat) : ((L.map fun y => [int y]).set i [int (L[j]?.getD 0)]).set j [int (L[i]?.getD 0)] = (swp L i j).map fun y => [int y] := by
  unfold swp
  rw [List.map_set, List.map_set]
theorem swapR_ok (p x y z s : List Int) (a b n : Int) (c : D) (ha : a = p.length) (hn : n = x.length) (hz : x.length = z.length) (hb : b = p.length + x.length + y.length) (hl : (p ++ x ++ y ++ z ++ s).length ≤ 300) :
    FnMem Tryz.prog 278 [.os 100000 (p ++ x ++ y ++ z ++ s).length, .d (int a), .d (int b), .d (int n), .d c] [obI (p ++ x ++ y ++ z ++ s)] noV [obI (p ++ z ++ y ++ x ++ s)] := by
  refine fnMem Tryz.func278 rfl (by kernel_rfl) Tryz.ntmps278 _ rfl (by simp) fun C hc => ?_
  have hlen : (p ++ x ++ y ++ z ++ s).length = p.length + x.length + y.length + z.length + s.length := by simp; omega
  have hS0 := swS_zero p x y z s
  have hSn := swS_end p x y z s (n := x.length) rfl hz.symm
  have hSl := fun i => swS_len p x y z s i hz
  have hSt := fun i (h : i < x.length) => swS_step p x y z s hz h
  obtain ⟨q, hq⟩ : ∃ q : Nat, q = p.length + x.length + y.length := ⟨_, rfl⟩
  rw [← hq] at hSt
  have hb : b = q := by omega
  rw [← hS0, ← hSn]
  rw [hlen] at hl
  rw [hSl 0]
  generalize hN : p.length + x.length + y.length + z.length + s.length = N at *
  generalize hW : swS p x y z s = W at *
  subst ha hb hn
  repeat' (first | (first | refine Ya ?_ | refine Yb ?_ | refine Yc ?_ | refine Yd ?_ | refine Ye ?_ | refine Yf ?_ | refine Yg ?_ | refine Yh ?_ | refine Yi ?_ | refine Yj ?_ | refine Yk ?_ | refine Yl ?_ | refine Ym ?_ | refine Yn ?_ | refine Yo ?_ | refine Yp (h := ?_) | refine Yq ?_ | refine Yr ?_ | refine Ys ?_ | refine Zr hc (hk := ?_) | refine Zd hc (hk := ?_) | (refine Zc (ht := fun hb => ?_) (hf := fun hb => ?_) <;> (try simp at hb)) | fail) | (first | refine Zo hc (hk := ?_) | refine Zu hc (hk := ?_) | refine Ze hc (hk := ?_) | fail))
  refine ewp_loop (fun i : Nat => ⟨[(0, .os 100000 N), (1, .d (int p.length)), (2, .d (int q)), (3, .d (int x.length)), (10, .d (int i))], [obI (W i)]⟩) (fun i => i ≤ x.length) (fun i => x.length - i) 0 (Nat.zero_le _) (run_keep [0, 1, 2, 3, 10] [100000] (by simp; exact Gives.mk) (by simp; exact Gives.mk)) ?_
  intro i hi
  have hWl := hSl i
  by_cases hlt : i < x.length
  · have hst := hSt i hlt
    have hmp := swp_map (W i) (p.length + i) (q + i)
    have hrow : ∀ {i : Nat}, ((((W i).map fun y => [int y]).set (p.length + i) [int ((W i)[q + i]?.getD 0)])[q + i]?.getD [int 0]).tail = [] := fun {i} => row_tail _ _ _ _
    rw [hst] at hmp
    repeat' (first | (first | refine Ya ?_ | refine Yb ?_ | refine Yc ?_ | refine Yd ?_ | refine Ye ?_ | refine Yf ?_ | refine Yg ?_ | refine Yh ?_ | refine Yi ?_ | refine Yj ?_ | refine Yk ?_ | refine Yl ?_ | refine Ym ?_ | refine Yn ?_ | refine Yo ?_ | refine Yp (h := ?_) | refine Yq ?_ | refine Yr ?_ | refine Ys ?_ | refine Zr hc (hk := ?_) | refine Zd hc (hk := ?_) | (refine Zc (ht := fun hb => ?_) (hf := fun hb => ?_) <;> (try simp at hb)) | fail) | (first | refine Zo hc (hk := ?_) | refine Zu hc (hk := ?_) | refine Ze hc (hk := ?_) | fail))
    all_goals try (exfalso; omega)
    refine ewp_le (run_keep [0, 1, 2, 3, 10] [100000] (by simp; exact Gives.mk) (by simp; exact Gives.mk)) ?_
    (apply Xd 24 hc; (focus (refine Xm 0 hc (hk := ?_); refine Xm 1 hc (hk := ?_); refine Xm 2 hc (hk := ?_); refine Xp 3 hc (hk := ?_); refine Xm 4 hc (hk := ?_); refine Xm 5 hc (hk := ?_); refine Xm 6 hc (hk := ?_); refine Xp 7 hc (hk := ?_); refine Xm 8 hc (hk := ?_); refine Xm 9 hc (hk := ?_); refine Xm 10 hc (hk := ?_); refine Xp 11 hc (hk := ?_); refine Xm 14 hc (hk := ?_); refine Xm 15 hc (hk := ?_); refine Xm 16 hc (hk := ?_); refine Xp 17 hc (hk := ?_); refine Xa [12, 18] (hx := ?_); refine ⟨?_, ?_⟩; (focus (refine Xw hc (hk := ?q30); refine run_anyR 13 [13, 20, 21, 22, 23] hc rfl (by kernel_rfl) rfl (by simp; exact Gives.mk) (by first | exact True.intro | omega | (simp; done) | (simp; omega) | (simp at *; omega)) (by simp) (by simp; exact Gives.mk) ?nq30; refine Xa [18] (hx := ?_); (focus (refine Xw hc (hk := ?q31); refine run_anyR 19 [19, 20, 21, 22, 23] hc rfl (by kernel_rfl) rfl (by simp; exact Gives.mk) (by first | exact True.intro | omega | (simp; done) | (simp; omega) | (simp at *; omega)) (by simp) (by simp; exact Gives.mk) ?nq31; refine Xa [20] (hx := ?_); (focus (refine Xw hc (hk := ?q32); refine Xa [21] (hx := ?nq32); (focus (refine Xw hc (hk := ?q33); refine Xa [22] (hx := ?nq33); (focus (refine Xw hc (hk := ?q34); refine Xa [23] (hx := ?nq34); (focus (refine Xw hc (hk := ?q35); refine Xz (hk := ?nq35); exact Xk [0, 1, 2, 3, 10] [100000])))))))))))); (focus (refine Xw hc (hk := ?q36); refine run_anyR 19 [19, 20, 21, 22, 23] hc rfl (by kernel_rfl) rfl (by simp; exact Gives.mk) (by first | exact True.intro | omega | (simp; done) | (simp; omega) | (simp at *; omega)) (by simp) (by simp; exact Gives.mk) ?nq36; refine Xa [12] (hx := ?_); (focus (refine Xw hc (hk := ?q37); refine run_anyR 13 [13, 20, 21, 22, 23] hc rfl (by kernel_rfl) rfl (by simp; exact Gives.mk) (by first | exact True.intro | omega | (simp; done) | (simp; omega) | (simp at *; omega)) (by simp) (by simp; exact Gives.mk) ?nq37; refine Xa [20] (hx := ?_); (focus (refine Xw hc (hk := ?_); exact Xq ?q32)))))))))
    repeat' (first | (first | refine Ya ?_ | refine Yb ?_ | refine Yc ?_ | refine Yd ?_ | refine Ye ?_ | refine Yf ?_ | refine Yg ?_ | refine Yh ?_ | refine Yi ?_ | refine Yj ?_ | refine Yk ?_ | refine Yl ?_ | refine Ym ?_ | refine Yn ?_ | refine Yo ?_ | refine Yp (h := ?_) | refine Yq ?_ | refine Yr ?_ | refine Ys ?_ | refine Zr hc (hk := ?_) | refine Zd hc (hk := ?_) | (refine Zc (ht := fun hb => ?_) (hf := fun hb => ?_) <;> (try simp at hb)) | fail) | (first | refine Zo hc (hk := ?_) | refine Zu hc (hk := ?_) | refine Ze hc (hk := ?_) | fail))
    exact ⟨i + 1, by omega, by omega, run_back [0, 1, 2, 3, 10] [100000] (by simp; exact Gives.mk) (by simp; exact Gives.mk) (by have e := hrow (i := i) ; simp [e]; first | exact hmp | exact hmp.symm)⟩
  · obtain rfl : i = x.length := by omega
    repeat' (first | (first | refine Ya ?_ | refine Yb ?_ | refine Yc ?_ | refine Yd ?_ | refine Ye ?_ | refine Yf ?_ | refine Yg ?_ | refine Yh ?_ | refine Yi ?_ | refine Yj ?_ | refine Yk ?_ | refine Yl ?_ | refine Ym ?_ | refine Yn ?_ | refine Yo ?_ | refine Yp (h := ?_) | refine Yq ?_ | refine Yr ?_ | refine Ys ?_ | refine Zr hc (hk := ?_) | refine Zd hc (hk := ?_) | (refine Zc (ht := fun hb => ?_) (hf := fun hb => ?_) <;> (try simp at hb)) | fail) | (first | refine Zo hc (hk := ?_) | refine Zu hc (hk := ?_) | refine Ze hc (hk := ?_) | fail))
    all_goals try (exfalso; omega)
    (refine run_leaveM [100000] hc (le_end rfl) (by simp; exact Gives.mk) (by simp; exact Gives.mk) (by first | (simp; done) | (simp; omega)) ?_)
    simp
/-- A rotation under way: what stands ahead, two parts yet to change places, what stands behind. -/
structure Rot where
  pre : List Int
  u : List Int
  v : List Int
  suf : List Int
abbrev Rot.row (r : Rot) : List Int := r.pre ++ r.u ++ r.v ++ r.suf
abbrev Rot.fin (r : Rot) : List Int := r.pre ++ r.v ++ r.u ++ r.suf
theorem rotate_ok (p x y s : List Int) (a m b : Int) (c : D) (ha : a = p.length) (hm : m = p.length + x.length) (hb : b = p.length + x.length + y.length) (h1 : 0 < x.length) (h2 : 0 < y.length) (hl : (p ++ x ++ y ++ s).length ≤ 300) :
    FnMem Tryz.prog 245 [.os 100000 (p ++ x ++ y ++ s).length, .d (int a), .d (int m), .d (int b), .d c] [obI (p ++ x ++ y ++ s)] noV [obI (p ++ y ++ x ++ s)] := by
  refine fnMem Tryz.func245 rfl (by kernel_rfl) Tryz.ntmps245 _ rfl (by simp) fun C hc => ?_
  obtain ⟨N, hN⟩ : ∃ N, N = (p ++ x ++ y ++ s).length := ⟨_, rfl⟩
  have hNl : N = p.length + x.length + y.length + s.length := by rw [hN]; simp; omega
  rw [← hN] at hl ⊢
  obtain ⟨F, hF⟩ : ∃ F, F = p ++ y ++ x ++ s := ⟨_, rfl⟩
  rw [← hF]
  have hFl : F.length = N := by rw [hF, hN]; simp; omega
  obtain ⟨M, hM⟩ : ∃ M : Nat, M = p.length + x.length := ⟨_, rfl⟩
  obtain rfl : m = M := by omega
  repeat' (first | (first | refine Ya ?_ | refine Yb ?_ | refine Yc ?_ | refine Yd ?_ | refine Ye ?_ | refine Yf ?_ | refine Yg ?_ | refine Yh ?_ | refine Yi ?_ | refine Yj ?_ | refine Yk ?_ | refine Yl ?_ | refine Ym ?_ | refine Yn ?_ | refine Yo ?_ | refine Yp (h := ?_) | refine Yq ?_ | refine Yr ?_ | refine Ys ?_ | refine Zr hc (hk := ?_) | refine Zd hc (hk := ?_) | (refine Zc (ht := fun hb => ?_) (hf := fun hb => ?_) <;> (try simp at hb)) | fail) | (first | refine Zo hc (hk := ?_) | refine Zu hc (hk := ?_) | refine Ze hc (hk := ?_) | fail))
  refine ewp_loop (fun r : Rot => ⟨[(0, .os 100000 N), (2, .d (int M)), (4, .d c), (10, .d (int r.u.length)), (11, .d (int r.v.length))], [obI r.row]⟩)
    (fun r => r.pre.length + r.u.length = M ∧ 0 < r.u.length ∧ 0 < r.v.length ∧ r.fin = F ∧ r.row.length = N) (fun r => r.u.length + r.v.length) ⟨p, x, y, s⟩ ⟨hM.symm, h1, h2, hF.symm, hN.symm⟩ (run_back [0, 2, 4, 10, 11] [100000] (by simp; exact Gives.mk) (by simp; exact Gives.mk) (by simp; omega)) ?_
  rintro ⟨pr, u, v, su⟩ ⟨k1, k2, k3, k4, k5⟩
  simp only [Rot.row, Rot.fin] at k1 k2 k3 k4 k5 ⊢
  have k6 : pr.length + u.length + v.length + su.length = N := by rw [← k5]; simp; omega
  rcases Nat.lt_trichotomy u.length v.length with huv | huv | huv
  · -- the part behind is longer
    have e : v = v.take (v.length - u.length) ++ v.drop (v.length - u.length) := (List.take_append_drop _ _).symm
    have e1 : (v.take (v.length - u.length)).length = v.length - u.length := by simp
    have e2 : (v.drop (v.length - u.length)).length = u.length := by simp; omega
    generalize v.take (v.length - u.length) = v1 at e e1
    generalize v.drop (v.length - u.length) = v2 at e e2
    subst e
    simp only [List.length_append] at *
    have hS := swapR_ok pr u v1 v2 su ((M : Int) - (u.length : Int)) ((M : Int) + ((v1.length + v2.length : Nat) : Int) - (u.length : Int)) (u.length : Int) c (by omega) rfl e2.symm (by omega) (by simp; omega)
    have er : pr ++ u ++ (v1 ++ v2) ++ su = pr ++ u ++ v1 ++ v2 ++ su := by simp
    have eN : (pr ++ u ++ v1 ++ v2 ++ su).length = N := by simp; omega
    rw [eN] at hS
    rw [er]
    simp only [Int.natCast_add] at hS ⊢
    repeat' (first | (first | refine Ya ?_ | refine Yb ?_ | refine Yc ?_ | refine Yd ?_ | refine Ye ?_ | refine Yf ?_ | refine Yg ?_ | refine Yh ?_ | refine Yi ?_ | refine Yj ?_ | refine Yk ?_ | refine Yl ?_ | refine Ym ?_ | refine Yn ?_ | refine Yo ?_ | refine Yp (h := ?_) | refine Yq ?_ | refine Yr ?_ | refine Ys ?_ | refine Zr hc (hk := ?_) | refine Zd hc (hk := ?_) | (refine Zc (ht := fun hb => ?_) (hf := fun hb => ?_) <;> (try simp at hb)) | fail) | ((first | refine run_callM ([(100000, 100000)]) (hS) hc (by simp; exact Gives.mk) (by simp; exact Gives.mk) (by simp; exact Gives.mk) (by simp; exact Gives.mk) (by simp; exact Gives.mk) rfl (by simp; exact Gives.mk) (by simp; exact Gives.mk) rfl (by simp) (by simp) (by simp; exact Gives.mk) (by simp; exact Gives.mk) ?_ | fail)) | (first | refine Zo hc (hk := ?_) | refine Zu hc (hk := ?_) | refine Ze hc (hk := ?_) | fail))
    all_goals try (exfalso; omega)
    refine ⟨⟨pr, v2, v1, u ++ su⟩, ⟨by simp only; omega, by simp only; omega, by simp only; omega, ?_, ?_⟩, by simp only; omega, run_back [0, 2, 4, 10, 11] [100000] (by simp; exact Gives.mk) (by simp; exact Gives.mk) ?_⟩
    · rw [← k4]; simp [Rot.fin]
    · simp [Rot.row]; try omega
    · simp [Rot.row]; try omega
  · -- the last change
    have hS := swapR_ok pr u [] v su ((M : Int) - (u.length : Int)) (M : Int) (u.length : Int) c (by omega) rfl huv (by simp; omega) (by simp; omega)
    simp only [List.append_nil] at hS
    have eN : (pr ++ u ++ v ++ su).length = N := k5
    rw [eN] at hS
    have huv' : (u.length : Int) = v.length := by omega
    repeat' (first | (first | refine Ya ?_ | refine Yb ?_ | refine Yc ?_ | refine Yd ?_ | refine Ye ?_ | refine Yf ?_ | refine Yg ?_ | refine Yh ?_ | refine Yi ?_ | refine Yj ?_ | refine Yk ?_ | refine Yl ?_ | refine Ym ?_ | refine Yn ?_ | refine Yo ?_ | refine Yp (h := ?_) | refine Yq ?_ | refine Yr ?_ | refine Ys ?_ | refine Zr hc (hk := ?_) | refine Zd hc (hk := ?_) | (refine Zc (ht := fun hb => ?_) (hf := fun hb => ?_) <;> (try simp at hb)) | fail) | ((first | refine run_callM ([(100000, 100000)]) (hS) hc (by simp; exact Gives.mk) (by simp; exact Gives.mk) (by simp; exact Gives.mk) (by simp; exact Gives.mk) (by simp; exact Gives.mk) rfl (by simp; exact Gives.mk) (by simp; exact Gives.mk) rfl (by simp) (by simp) (by simp; exact Gives.mk) (by simp; exact Gives.mk) ?_ | fail)) | (first | refine Zo hc (hk := ?_) | refine Zu hc (hk := ?_) | refine Ze hc (hk := ?_) | fail))
    all_goals try (exfalso; omega)
    (refine run_leaveM [100000] hc (le_end rfl) (by simp; exact Gives.mk) (by simp; exact Gives.mk) (by first | (simp; done) | (simp; omega)) ?_)
    rw [← k4]
    simp
  · have e : u = u.take v.length ++ u.drop v.length := (List.take_append_drop _ _).symm
    have e1 : (u.take v.length).length = v.length := by simp; omega
    have e2 : (u.drop v.length).length = u.length - v.length := by simp
    generalize u.take v.length = u1 at e e1
    generalize u.drop v.length = u2 at e e2
    subst e
    simp only [List.length_append] at *
    have hS := swapR_ok pr u1 u2 v su ((M : Int) - ((u1.length + u2.length : Nat) : Int)) (M : Int) (v.length : Int) c (by omega) (by omega) e1 (by omega) (by simp; omega)
    have er : pr ++ (u1 ++ u2) ++ v ++ su = pr ++ u1 ++ u2 ++ v ++ su := by simp
    have eN : (pr ++ u1 ++ u2 ++ v ++ su).length = N := by simp; omega
    rw [eN] at hS
    rw [er]
    simp only [Int.natCast_add] at hS ⊢
    repeat' (first | (first | refine Ya ?_ | refine Yb ?_ | refine Yc ?_ | refine Yd ?_ | refine Ye ?_ | refine Yf ?_ | refine Yg ?_ | refine Yh ?_ | refine Yi ?_ | refine Yj ?_ | refine Yk ?_ | refine Yl ?_ | refine Ym ?_ | refine Yn ?_ | refine Yo ?_ | refine Yp (h := ?_) | refine Yq ?_ | refine Yr ?_ | refine Ys ?_ | refine Zr hc (hk := ?_) | refine Zd hc (hk := ?_) | (refine Zc (ht := fun hb => ?_) (hf := fun hb => ?_) <;> (try simp at hb)) | fail) | ((first | refine run_callM ([(100000, 100000)]) (hS) hc (by simp; exact Gives.mk) (by simp; exact Gives.mk) (by simp; exact Gives.mk) (by simp; exact Gives.mk) (by simp; exact Gives.mk) rfl (by simp; exact Gives.mk) (by simp; exact Gives.mk) rfl (by simp) (by simp) (by simp; exact Gives.mk) (by simp; exact Gives.mk) ?_ | fail)) | (first | refine Zo hc (hk := ?_) | refine Zu hc (hk := ?_) | refine Ze hc (hk := ?_) | fail))
    all_goals try (exfalso; omega)
    refine ⟨⟨pr ++ v, u2, u1, su⟩, ⟨by simp; omega, by simp only; omega, by simp only; omega, ?_, ?_⟩, by simp only; omega, run_back [0, 2, 4, 10, 11] [100000] (by simp; exact Gives.mk) (by simp; exact Gives.mk) ?_⟩
    · rw [← k4]; simp [Rot.fin]
    · simp [Rot.row]; try omega
    · simp [Rot.row]; try omega
end Go.Proofs.YtnainpghpjelcaaGreatDoor
/-
  SORTING: slices.SortStableFunc's parts at numbers: insertion. (WITH run_drawN.)
-/
set_option linter.unusedSimpArgs false
set_option linter.unusedVariables false
namespace Go.Proofs.YtnainpghpjelcaaGreatDoor
open Go.Lw Go.RowKit
set_option maxRecDepth 100000
set_option maxHeartbeats 8000000

/-- A comparison: what it answers of two numbers of a kind; it tells the order, where the first number is the greater one. -/
structure CmpOk (g : FuncId) (caps : List D) (T : Int → Prop) (lt : Int → Int → Bool) (cmp : Int → Int → Int) : Prop where
  fn : ∀ x y, T x → T y → FnOk Tryz.prog g (int x :: int y :: caps) (int (cmp x y))
  lts : Lts lt
  says : ∀ x y, T x → T y → y < x → (cmp x y < 0 ↔ lt x y = true)
/-- The row under way: what stands ahead, what is sorted already cut in two, the number that is put in, what is left of the block, what stands behind. -/
def insRow (P R : List Int) (q : Nat) (x : Int) (B S : List Int) : List Int := P ++ (R.take q ++ x :: R.drop q) ++ B ++ S
theorem insRow_len (P R : List Int) (q : Nat) (x : Int) (B S : List Int) (hq : q ≤ R.length) : (insRow P R q x B S).length = P.length + R.length + 1 + B.length + S.length := by
  unfold insRow
  simp
  omega
theorem insRow_at (P R : List Int) (q : Nat) (x : Int) (B S : List Int) (hq : q ≤ R.length) : (insRow P R q x B S)[P.length + q]?.getD 0 = x := by
  unfold insRow
  have h := get_mid (P ++ R.take q) (R.drop q ++ B ++ S) x
  rw [show (P ++ R.take q).length = P.length + q by simp; omega] at h
  have e : P ++ (R.take q ++ x :: R.drop q) ++ B ++ S = P ++ R.take q ++ x :: (R.drop q ++ B ++ S) := by simp
  rw [e]
  exact h
theorem insRow_pre (P R : List Int) (q : Nat) (x : Int) (B S : List Int) (hq : q ≤ R.length) (h0 : 0 < q) : (insRow P R q x B S)[P.length + (q - 1)]?.getD 0 = R[q - 1]?.getD 0 := by
  unfold insRow
  rw [List.append_assoc, List.append_assoc, List.getElem?_append_right (by omega), List.append_assoc, List.getElem?_append_left (by simp; omega), List.getElem?_take, if_pos (by omega), show P.length + (q - 1) - P.length = q - 1 by omega]
theorem insRow_swp (P R : List Int) (q : Nat) (x : Int) (B S : List Int) (hq : q ≤ R.length) (h0 : 0 < q) : swp (insRow P R q x B S) (P.length + (q - 1)) (P.length + q) = insRow P R (q - 1) x B S := by
  have e1 : R.take q = R.take (q - 1) ++ [R[q - 1]?.getD 0] := by
    have := List.take_succ_eq_append_getElem (l := R) (i := q - 1) (by omega)
    rw [show q - 1 + 1 = q by omega] at this
    rw [this]; simp [show q - 1 < R.length by omega]
  have e2 : R.drop (q - 1) = R[q - 1]?.getD 0 :: R.drop q := by
    rw [List.drop_eq_getElem_cons (show q - 1 < R.length by omega), show q - 1 + 1 = q by omega]
    simp [show q - 1 < R.length by omega]
  have h := swp_next (P ++ R.take (q - 1)) (R.drop q ++ B ++ S) (R[q - 1]?.getD 0) x
  rw [show (P ++ R.take (q - 1)).length = P.length + (q - 1) by simp; omega, show P.length + (q - 1) + 1 = P.length + q by omega] at h
  unfold insRow
  rw [e1, e2]
  have a1 : P ++ (R.take (q - 1) ++ [R[q - 1]?.getD 0] ++ x :: R.drop q) ++ B ++ S = P ++ R.take (q - 1) ++ R[q - 1]?.getD 0 :: x :: (R.drop q ++ B ++ S) := by simp
  rw [a1, h]
  simp
theorem swp_comm (L : List Int) {i j : Nat} (h : i ≠ j) : swp L i j = swp L j i := by
  unfold swp
  rw [List.set_comm _ _ h]
theorem insSort_ok {g : FuncId} {caps : List D} {T : Int → Prop} {lt : Int → Int → Bool} {cmp : Int → Int → Int} (H : CmpOk g caps T lt cmp) (P B S : List Int) (a b : Int) (ha : a = P.length) (hb : b = P.length + B.length) (hB : ∀ x ∈ B, T x) (hinc : B.Pairwise (· < ·)) (hl : (P ++ B ++ S).length ≤ 300) :
    FnMem Tryz.prog 197 [.os 100000 (P ++ B ++ S).length, .d (int a), .d (int b), .d (.clo (.func g) caps)] [obI (P ++ B ++ S)] noV [obI (P ++ srt lt B ++ S)] := by
  refine fnMem Tryz.func197 rfl (by kernel_rfl) Tryz.ntmps197 _ rfl (by simp) fun C hc => ?_
  obtain ⟨N, hN⟩ : ∃ N, N = (P ++ B ++ S).length := ⟨_, rfl⟩
  have hNl : N = P.length + B.length + S.length := by rw [hN]; simp; omega
  rw [← hN] at hl ⊢
  obtain ⟨e, he⟩ : ∃ e : Nat, e = P.length + B.length := ⟨_, rfl⟩
  obtain rfl : b = e := by omega
  subst ha
  by_cases hB0 : B = []
  · subst hB0
    rw [srt_nil]
    simp only [List.length_nil, Nat.add_zero, List.append_nil] at he hNl ⊢
    subst he
    have hWl : (P ++ S).length = P.length + S.length := List.length_append
    generalize P ++ S = W at hWl ⊢
    repeat' (first | (first | refine Ya ?_ | refine Yb ?_ | refine Yc ?_ | refine Yd ?_ | refine Ye ?_ | refine Yf ?_ | refine Yg ?_ | refine Yh ?_ | refine Yi ?_ | refine Yj ?_ | refine Yk ?_ | refine Yl ?_ | refine Ym ?_ | refine Yn ?_ | refine Yo ?_ | refine Yp (h := ?_) | refine Yq ?_ | refine Yr ?_ | refine Ys ?_ | refine Zr hc (hk := ?_) | refine Zd hc (hk := ?_) | (refine Zc (ht := fun hb => ?_) (hf := fun hb => ?_) <;> (try simp at hb)) | fail) | (first | refine Zo hc (hk := ?_) | refine Zu hc (hk := ?_) | refine Ze hc (hk := ?_) | fail))
    refine ewp_loop (fun _ : Unit => ⟨[(2, .d (int P.length)), (8, .d (int ((P.length : Int) + 1)))], [obI W]⟩) (fun _ => True) (fun _ => 0) () trivial (run_keep [2, 8] [100000] (by simp; exact Gives.mk) (by simp; exact Gives.mk)) ?_
    intro _ _
    repeat' (first | (first | refine Ya ?_ | refine Yb ?_ | refine Yc ?_ | refine Yd ?_ | refine Ye ?_ | refine Yf ?_ | refine Yg ?_ | refine Yh ?_ | refine Yi ?_ | refine Yj ?_ | refine Yk ?_ | refine Yl ?_ | refine Ym ?_ | refine Yn ?_ | refine Yo ?_ | refine Yp (h := ?_) | refine Yq ?_ | refine Yr ?_ | refine Ys ?_ | refine Zr hc (hk := ?_) | refine Zd hc (hk := ?_) | (refine Zc (ht := fun hb => ?_) (hf := fun hb => ?_) <;> (try simp at hb)) | fail) | (first | refine Zo hc (hk := ?_) | refine Zu hc (hk := ?_) | refine Ze hc (hk := ?_) | fail))
    all_goals try (exfalso; omega)
    (refine run_leaveM [100000] hc (le_end rfl) (by simp; exact Gives.mk) (by simp; exact Gives.mk) (by first | (simp; done) | (simp; omega)) ?_)
    simp
  have hBl : 0 < B.length := List.length_pos_iff.2 hB0
  repeat' (first | (first | refine Ya ?_ | refine Yb ?_ | refine Yc ?_ | refine Yd ?_ | refine Ye ?_ | refine Yf ?_ | refine Yg ?_ | refine Yh ?_ | refine Yi ?_ | refine Yj ?_ | refine Yk ?_ | refine Yl ?_ | refine Ym ?_ | refine Yn ?_ | refine Yo ?_ | refine Yp (h := ?_) | refine Yq ?_ | refine Yr ?_ | refine Ys ?_ | refine Zr hc (hk := ?_) | refine Zd hc (hk := ?_) | (refine Zc (ht := fun hb => ?_) (hf := fun hb => ?_) <;> (try simp at hb)) | fail) | (first | refine Zo hc (hk := ?_) | refine Zu hc (hk := ?_) | refine Ze hc (hk := ?_) | fail))
  refine ewp_loop (fun t : Nat => ⟨[(0, .os 100000 N), (1, .d (int P.length)), (2, .d (int e)), (3, .d (.clo (.func g) caps)), (8, .d (int ((P.length : Int) + (t : Int))))], [obI (P ++ srt lt (B.take t) ++ B.drop t ++ S)]⟩)
    (fun t => 1 ≤ t ∧ t ≤ B.length) (fun t => B.length - t) 1 ⟨Nat.le_refl _, hBl⟩ (run_back [0, 1, 2, 3, 8] [100000] (by simp; exact Gives.mk) (by simp; exact Gives.mk) ?_) ?_
  · have h1 : srt lt (B.take 1) ++ B.drop 1 = B := by
      cases B with
      | nil => exact absurd rfl hB0
      | cons x B' => simp [srt_one]
    have h2 : P ++ srt lt (B.take 1) ++ B.drop 1 ++ S = P ++ B ++ S := by
      rw [List.append_assoc P, h1]
    simp only [h2]
    simp
  rintro t ⟨ht1, ht2⟩
  by_cases htl : t < B.length
  rotate_left
  · obtain rfl : t = B.length := by omega
    rw [List.take_length, List.drop_length, List.append_nil]
    repeat' (first | (first | refine Ya ?_ | refine Yb ?_ | refine Yc ?_ | refine Yd ?_ | refine Ye ?_ | refine Yf ?_ | refine Yg ?_ | refine Yh ?_ | refine Yi ?_ | refine Yj ?_ | refine Yk ?_ | refine Yl ?_ | refine Ym ?_ | refine Yn ?_ | refine Yo ?_ | refine Yp (h := ?_) | refine Yq ?_ | refine Yr ?_ | refine Ys ?_ | refine Zr hc (hk := ?_) | refine Zd hc (hk := ?_) | (refine Zc (ht := fun hb => ?_) (hf := fun hb => ?_) <;> (try simp at hb)) | fail) | (first | refine Zo hc (hk := ?_) | refine Zu hc (hk := ?_) | refine Ze hc (hk := ?_) | fail))
    all_goals try (exfalso; omega)
    (refine run_leaveM [100000] hc (le_end rfl) (by simp; exact Gives.mk) (by simp; exact Gives.mk) (by first | (simp; done) | (simp; omega)) ?_)
    simp
  obtain ⟨x, hx⟩ : ∃ x, x = B[t] := ⟨_, rfl⟩
  have hdr : B.drop t = x :: B.drop (t + 1) := by rw [hx]; exact List.drop_eq_getElem_cons htl
  have htk : B.take (t + 1) = B.take t ++ [x] := by rw [hx]; exact List.take_succ_eq_append_getElem htl
  have hxT : T x := hB x (by rw [hx]; exact List.getElem_mem htl)
  obtain ⟨R, hR⟩ : ∃ R, R = srt lt (B.take t) := ⟨_, rfl⟩
  have hRl : R.length = t := by rw [hR, srt_length, List.length_take]; omega
  have hRm : ∀ y ∈ R, T y ∧ y < x := fun y hy => by
    rw [hR, srt_mem] at hy
    refine ⟨hB y (List.mem_of_mem_take hy), ?_⟩
    obtain ⟨j, hj⟩ := List.mem_iff_getElem?.1 hy
    rw [List.getElem?_take] at hj
    split at hj
    · rename_i hjt
      have := List.pairwise_iff_getElem.1 hinc j t (List.getElem?_eq_some_iff.1 hj).1 htl hjt
      rw [(List.getElem?_eq_some_iff.1 hj).2] at this
      rw [hx]; exact this
    · cases hj
  have hRs : Srt lt R := by
    rw [hR]
    exact srt_srt H.lts ((hinc.imp fun h e => by omega : B.Nodup).sublist (List.take_sublist _ _))
  have hst : P ++ R ++ B.drop t ++ S = insRow P R t x (B.drop (t + 1)) S := by
    unfold insRow
    rw [List.take_of_length_le (show R.length ≤ t by omega), List.drop_eq_nil_of_le (show R.length ≤ t by omega), hdr]
    simp
  rw [← hR, hst]
  have hBd : (B.drop (t + 1)).length = B.length - (t + 1) := by simp
  have hfin : ∀ q, q ≤ R.length → (0 < q → lt (R[q - 1]?.getD 0) x = true) → (q < R.length → lt x (R[q]?.getD 0) = true) → insRow P R q x (B.drop (t + 1)) S = P ++ srt lt (B.take (t + 1)) ++ B.drop (t + 1) ++ S := fun q h1 h2 h3 => by
    unfold insRow
    rw [put_last H.lts hRs h1 h2 h3, htk]
    have : srt lt (R ++ [x]) = srt lt (B.take t ++ [x]) := by
      refine srt_of_perm H.lts ?_ ?_
      · refine List.nodup_append.2 ⟨Srt.nodup H.lts hRs, by simp, fun y hy z hz e => ?_⟩
        obtain rfl : z = x := by simpa using hz
        have := (hRm y hy).2
        omega
      · rw [hR]
        exact List.Perm.append_right _ (srt_perm _)
    rw [this]
  generalize hB' : B.drop (t + 1) = B' at hBd hfin ⊢
  clear hst hdr htk
  repeat' (first | (first | refine Ya ?_ | refine Yb ?_ | refine Yc ?_ | refine Yd ?_ | refine Ye ?_ | refine Yf ?_ | refine Yg ?_ | refine Yh ?_ | refine Yi ?_ | refine Yj ?_ | refine Yk ?_ | refine Yl ?_ | refine Ym ?_ | refine Yn ?_ | refine Yo ?_ | refine Yp (h := ?_) | refine Yq ?_ | refine Yr ?_ | refine Ys ?_ | refine Zr hc (hk := ?_) | refine Zd hc (hk := ?_) | (refine Zc (ht := fun hb => ?_) (hf := fun hb => ?_) <;> (try simp at hb)) | fail) | (first | refine Zo hc (hk := ?_) | refine Zu hc (hk := ?_) | refine Ze hc (hk := ?_) | fail))
  all_goals try (exfalso; omega)
  refine ewp_loop (fun j : Nat => ⟨[(0, .os 100000 N), (1, .d (int P.length)), (2, .d (int e)), (3, .d (.clo (.func g) caps)), (8, .d (int ((P.length : Int) + (t : Int)))), (9, .d (int j))], [obI (insRow P R (j - P.length) x B' S)]⟩)
    (fun j => P.length ≤ j ∧ j - P.length ≤ t ∧ (j - P.length < R.length → lt x (R[j - P.length]?.getD 0) = true)) (fun j => j) (P.length + t) ⟨by omega, by omega, fun h => by omega⟩ (run_back [0, 1, 2, 3, 8, 9] [100000] (by simp; exact Gives.mk) (by simp; exact Gives.mk) (by simp)) ?_
  rintro j ⟨hj0, hq, hql⟩
  obtain ⟨q, rfl⟩ : ∃ q, j = P.length + q := ⟨j - P.length, by omega⟩
  rw [Nat.add_sub_cancel_left] at hq hql ⊢
  have hrl := insRow_len P R q x B' S (by omega)
  have hra := insRow_at P R q x B' S (by omega)
  by_cases hq0 : 0 < q
  rotate_left
  · have hf := hfin q (by omega) (fun h => absurd h hq0) hql
    rw [hf] at hrl hra ⊢
    generalize hW : P ++ srt lt (B.take (t + 1)) ++ B' ++ S = W at *
    generalize hj : P.length + q = j at *
    have hjl : ¬ P.length < j := by omega
    repeat' (first | (first | refine Ya ?_ | refine Yb ?_ | refine Yc ?_ | refine Yd ?_ | refine Ye ?_ | refine Yf ?_ | refine Yg ?_ | refine Yh ?_ | refine Yi ?_ | refine Yj ?_ | refine Yk ?_ | refine Yl ?_ | refine Ym ?_ | refine Yn ?_ | refine Yo ?_ | refine Yp (h := ?_) | refine Yq ?_ | refine Yr ?_ | refine Ys ?_ | refine Zr hc (hk := ?_) | refine Zd hc (hk := ?_) | (refine Zc (ht := fun hb => ?_) (hf := fun hb => ?_) <;> (try simp at hb)) | fail) | (first | refine run_callW hc (by simp; exact Gives.mk) (by simp; exact Gives.mk) (by simp; exact Gives.mk) (by simp; exact Gives.mk) (by simp; exact Gives.mk) (fun _ => by first | exact (show FnOk _ _ _ (int 0) from by exfalso; simp_all; done)) (by simp) (by simp) ?_ | refine run_callQ hc (by simp; exact Gives.mk) (by simp; exact Gives.mk) (by simp; exact Gives.mk) (by simp; exact Gives.mk) (by simp; exact Gives.mk) (fun _ => by first | exact (show FnOk _ _ _ (int 0) from by exfalso; simp_all; done)) (by simp) (by simp) ?_ | refine run_ops hc (by simp; first | exact Ends.go | exact Ends.halt) (by decide) (by first | exact True.intro | omega | assumption | (simp; done) | (simp; omega) | (simp at *; omega)) ?_ | refine run_quiet hc (by simp; first | exact Ends.go | exact Ends.halt) (by decide) (by first | exact True.intro | omega | assumption | (simp; done) | (simp; omega) | (simp at *; omega)) ?_ | refine run_regionW hc (by simp; exact Ends.halt) (by first | exact True.intro | omega | assumption | (simp; done) | (simp; omega) | (simp at *; omega)) ?_ | refine run_drawN hc (by kernel_rfl) (by decide) (by kernel_rfl) (by simp; exact Ends.halt) (by first | exact True.intro | omega | assumption | (simp; done) | (simp; omega) | (simp at *; omega)) ?_ | fail))
    all_goals try contradiction
    all_goals try (exfalso; omega)
    exact ⟨t + 1, ⟨by omega, by omega⟩, by omega, run_back [0, 1, 2, 3, 8] [100000] (by simp; exact Gives.mk) (by simp; exact Gives.mk) (by simp only [hB', hW]; simp; omega)⟩
  have hrp := insRow_pre P R q x B' S (by omega) hq0
  have hsw := insRow_swp P R q x B' S (by omega) hq0
  have hym : R[q - 1]?.getD 0 ∈ R := by
    rw [List.getElem?_eq_getElem (show q - 1 < R.length by omega)]; exact List.getElem_mem _
  have hC := H.fn x (R[q - 1]?.getD 0) hxT (hRm _ hym).1
  have hs := H.says x (R[q - 1]?.getD 0) hxT (hRm _ hym).1 (hRm _ hym).2
  have hne : x ≠ R[q - 1]?.getD 0 := fun e => by have := (hRm _ hym).2; omega
  have hf := hfin q (by omega)
  have ej : P.length + (q - 1) = P.length + q - 1 := by omega
  rw [ej] at hrp hsw
  generalize hWd : insRow P R q x B' S = W at *
  generalize hj : P.length + q = j at *
  have hmp := swp_map W j (j - 1)
  rw [swp_comm _ (show j ≠ j - 1 by omega), hsw] at hmp
  have htl2 := row_tail W j (j - 1) (W[j - 1]?.getD 0)
  generalize cmp x (R[q - 1]?.getD 0) = z at hC hs
  rw [← hra, ← hrp] at hC
  by_cases hz : z < 0
  · repeat' (first | (first | refine Ya ?_ | refine Yb ?_ | refine Yc ?_ | refine Yd ?_ | refine Ye ?_ | refine Yf ?_ | refine Yg ?_ | refine Yh ?_ | refine Yi ?_ | refine Yj ?_ | refine Yk ?_ | refine Yl ?_ | refine Ym ?_ | refine Yn ?_ | refine Yo ?_ | refine Yp (h := ?_) | refine Yq ?_ | refine Yr ?_ | refine Ys ?_ | refine Zr hc (hk := ?_) | refine Zd hc (hk := ?_) | (refine Zc (ht := fun hb => ?_) (hf := fun hb => ?_) <;> (try simp at hb)) | fail) | (first | refine Zw hc (hf := by exact hC) (hk := ?_) | refine Zq hc (hf := by exact hC) (hk := ?_) | refine Zo hc (hk := ?_) | refine Zu hc (hk := ?_) | refine Ze hc (hk := ?_) | refine Zn hc (hk := ?_) | fail))
    all_goals try contradiction
    all_goals try (exfalso; omega)
    refine ewp_le (run_keep [0, 1, 2, 3, 8, 9] [100000] (by simp; exact Gives.mk) (by simp; exact Gives.mk)) ?_
    (apply run_drawAny 18 hc (by kernel_rfl) rfl; (focus (refine run_anyM 0 hc rfl (by kernel_rfl) rfl (by first | exact .inl rfl | exact .inr rfl) (by simp; exact Gives.mk) (by simp) (by simp; exact Gives.mk) ?_; refine run_anyM 1 hc rfl (by kernel_rfl) rfl (by first | exact .inl rfl | exact .inr rfl) (by simp; exact Gives.mk) (by simp) (by simp; exact Gives.mk) ?_; refine run_anyM 2 hc rfl (by kernel_rfl) rfl (by first | exact .inl rfl | exact .inr rfl) (by simp; exact Gives.mk) (by simp) (by simp; exact Gives.mk) ?_; refine run_anyM 3 hc rfl (by kernel_rfl) rfl (by first | exact .inl rfl | exact .inr rfl) (by simp; exact Gives.mk) (by simp) (by simp; exact Gives.mk) ?_; refine run_anyP 4 hc rfl (by kernel_rfl) rfl (by simp; exact Gives.mk) (by first | exact True.intro | omega | (simp; done) | (simp; omega) | (simp at *; omega)) (by simp) (by simp) (by simp; exact Gives.mk) ?_; refine run_anyM 5 hc rfl (by kernel_rfl) rfl (by first | exact .inl rfl | exact .inr rfl) (by simp; exact Gives.mk) (by simp) (by simp; exact Gives.mk) ?_; refine run_anyM 6 hc rfl (by kernel_rfl) rfl (by first | exact .inl rfl | exact .inr rfl) (by simp; exact Gives.mk) (by simp) (by simp; exact Gives.mk) ?_; refine run_anyP 7 hc rfl (by kernel_rfl) rfl (by simp; exact Gives.mk) (by first | exact True.intro | omega | (simp; done) | (simp; omega) | (simp at *; omega)) (by simp) (by simp) (by simp; exact Gives.mk) ?_; refine run_anyM 10 hc rfl (by kernel_rfl) rfl (by first | exact .inl rfl | exact .inr rfl) (by simp; exact Gives.mk) (by simp) (by simp; exact Gives.mk) ?_; refine run_anyM 11 hc rfl (by kernel_rfl) rfl (by first | exact .inl rfl | exact .inr rfl) (by simp; exact Gives.mk) (by simp) (by simp; exact Gives.mk) ?_; refine anyW_all [8, 12] (by kernel_rfl) rfl ?_; refine ⟨?_, ?_⟩; (focus (refine run_stepW hc rfl (by simp; exact Ends.go) (by first | exact True.intro | omega | (simp; done) | (simp; omega) | (simp at *; omega)) ?q60; refine anyW_all [9, 12] (by kernel_rfl) rfl ?nq60; refine ⟨?_, ?_⟩; (focus (refine run_stepW hc rfl (by simp; exact Ends.go) (by first | exact True.intro | omega | (simp; done) | (simp; omega) | (simp at *; omega)) ?q61; refine anyW_all [12] (by kernel_rfl) rfl ?nq61; (focus (refine run_stepW hc rfl (by simp; exact Ends.go) (by first | exact True.intro | omega | (simp; done) | (simp; omega) | (simp at *; omega)) ?q62; refine anyW_all [13] (by kernel_rfl) rfl ?nq62; (focus (refine run_stepW hc rfl (by simp; exact Ends.go) (by first | exact True.intro | omega | (simp; done) | (simp; omega) | (simp at *; omega)) ?q63; refine anyW_all [14] (by kernel_rfl) rfl ?nq63; (focus (refine run_stepW hc rfl (by simp; exact Ends.go) (by first | exact True.intro | omega | (simp; done) | (simp; omega) | (simp at *; omega)) ?q64; refine anyW_all [15] (by kernel_rfl) rfl ?nq64; (focus (refine run_stepW hc rfl (by simp; exact Ends.go) (by first | exact True.intro | omega | (simp; done) | (simp; omega) | (simp at *; omega)) ?q65; refine anyW_all [16] (by kernel_rfl) rfl ?nq65; (focus (refine run_stepW hc rfl (by simp; exact Ends.go) (by first | exact True.intro | omega | (simp; done) | (simp; omega) | (simp at *; omega)) ?q66; refine anyW_all [17] (by kernel_rfl) rfl ?nq66; (focus (refine run_stepW hc rfl (by simp; exact Ends.go) (by first | exact True.intro | omega | (simp; done) | (simp; omega) | (simp at *; omega)) ?q67; refine anyW_done (by kernel_rfl) ?nq67; exact run_keep [0, 1, 2, 3, 8, 9] [100000] (by simp; try exact Gives.mk) (by simp; try exact Gives.mk))))))))))))))); (focus (refine run_stepW hc rfl (by simp; exact Ends.go) (by first | exact True.intro | omega | (simp; done) | (simp; omega) | (simp at *; omega)) ?q68; refine anyW_all [9, 13] (by kernel_rfl) rfl ?nq68; refine ⟨?_, ?_⟩; (focus (refine run_stepW hc rfl (by simp; exact Ends.go) (by first | exact True.intro | omega | (simp; done) | (simp; omega) | (simp at *; omega)) ?_; exact anyW_le (run_back [0, 1, 2, 3, 8, 9, 37, 38, 39, 40, 41, 42, 43, 44, 47, 48, 45, 46, 49] [100000] (by simp; exact Gives.mk) (by simp; exact Gives.mk) (by simp)) ?q62)); (focus (refine run_stepW hc rfl (by simp; exact Ends.go) (by first | exact True.intro | omega | (simp; done) | (simp; omega) | (simp at *; omega)) ?q69; refine anyW_all [9] (by kernel_rfl) rfl ?nq69; (focus (refine run_stepW hc rfl (by simp; exact Ends.go) (by first | exact True.intro | omega | (simp; done) | (simp; omega) | (simp at *; omega)) ?_; exact anyW_le (run_back [0, 1, 2, 3, 8, 9, 37, 38, 39, 40, 41, 42, 43, 44, 47, 48, 45, 46, 49, 50] [100000] (by simp; exact Gives.mk) (by simp; exact Gives.mk) (by simp)) ?q63)))))))); (focus (refine run_stepW hc rfl (by simp; exact Ends.go) (by first | exact True.intro | omega | (simp; done) | (simp; omega) | (simp at *; omega)) ?q610; refine anyW_all [8, 13] (by kernel_rfl) rfl ?nq610; refine ⟨?_, ?_⟩; (focus (refine run_stepW hc rfl (by simp; exact Ends.go) (by first | exact True.intro | omega | (simp; done) | (simp; omega) | (simp at *; omega)) ?_; exact anyW_le (run_back [0, 1, 2, 3, 8, 9, 37, 38, 39, 40, 41, 42, 43, 44, 47, 48, 45, 49] [100000] (by simp; exact Gives.mk) (by simp; exact Gives.mk) (by simp)) ?q68)); (focus (refine run_stepW hc rfl (by simp; exact Ends.go) (by first | exact True.intro | omega | (simp; done) | (simp; omega) | (simp at *; omega)) ?q611; refine anyW_all [8] (by kernel_rfl) rfl ?nq611; (focus (refine run_stepW hc rfl (by simp; exact Ends.go) (by first | exact True.intro | omega | (simp; done) | (simp; omega) | (simp at *; omega)) ?_; exact anyW_le (run_back [0, 1, 2, 3, 8, 9, 37, 38, 39, 40, 41, 42, 43, 44, 47, 48, 45, 49, 50] [100000] (by simp; exact Gives.mk) (by simp; exact Gives.mk) (by simp)) ?q69)))))))))
    repeat' (first | (first | refine Ya ?_ | refine Yb ?_ | refine Yc ?_ | refine Yd ?_ | refine Ye ?_ | refine Yf ?_ | refine Yg ?_ | refine Yh ?_ | refine Yi ?_ | refine Yj ?_ | refine Yk ?_ | refine Yl ?_ | refine Ym ?_ | refine Yn ?_ | refine Yo ?_ | refine Yp (h := ?_) | refine Yq ?_ | refine Yr ?_ | refine Ys ?_ | refine Zr hc (hk := ?_) | refine Zd hc (hk := ?_) | (refine Zc (ht := fun hb => ?_) (hf := fun hb => ?_) <;> (try simp at hb)) | fail) | (first | refine Zo hc (hk := ?_) | refine Zu hc (hk := ?_) | refine Ze hc (hk := ?_) | fail))
    all_goals try (exfalso; omega)
    refine ⟨j - 1, ⟨by omega, by omega, fun _ => ?_⟩, by omega, run_back [0, 1, 2, 3, 8, 9] [100000] (by simp; exact Gives.mk) (by simp; exact Gives.mk) ?_⟩
    · rw [show j - 1 - P.length = q - 1 by omega]
      exact hs.1 hz
    · rw [show j - 1 - P.length = q - 1 by omega]
      simp [htl2]
      exact ⟨by omega, hmp.symm⟩
  · have hlx : lt (R[q - 1]?.getD 0) x = true := (H.lts.tot _ _ (fun e => hne e.symm)).resolve_right fun h => hz (hs.2 h)
    have hf := hf (fun _ => hlx) hql
    repeat' (first | (first | refine Ya ?_ | refine Yb ?_ | refine Yc ?_ | refine Yd ?_ | refine Ye ?_ | refine Yf ?_ | refine Yg ?_ | refine Yh ?_ | refine Yi ?_ | refine Yj ?_ | refine Yk ?_ | refine Yl ?_ | refine Ym ?_ | refine Yn ?_ | refine Yo ?_ | refine Yp (h := ?_) | refine Yq ?_ | refine Yr ?_ | refine Ys ?_ | refine Zr hc (hk := ?_) | refine Zd hc (hk := ?_) | (refine Zc (ht := fun hb => ?_) (hf := fun hb => ?_) <;> (try simp at hb)) | fail) | (first | refine Zw hc (hf := by exact hC) (hk := ?_) | refine Zq hc (hf := by exact hC) (hk := ?_) | refine Zo hc (hk := ?_) | refine Zu hc (hk := ?_) | refine Ze hc (hk := ?_) | refine Zn hc (hk := ?_) | fail))
    all_goals try contradiction
    all_goals try (exfalso; omega)
    exact ⟨t + 1, ⟨by omega, by omega⟩, by omega, run_back [0, 1, 2, 3, 8] [100000] (by simp; exact Gives.mk) (by simp; exact Gives.mk) (by simp only [hB', ← hf]; simp; omega)⟩
end Go.Proofs.YtnainpghpjelcaaGreatDoor
/-
  SORTING: slices.SortStableFunc's parts at numbers: merging. (WITH run_drawN.)
-/
set_option linter.unusedSimpArgs false
set_option linter.unusedVariables false
namespace Go.Proofs.YtnainpghpjelcaaGreatDoor
open Go.Lw Go.RowKit
set_option maxRecDepth 100000
set_option maxHeartbeats 8000000

@[simp] theorem inR_u64s (n : Int) : inR .u64 n ↔ 0 ≤ n ∧ n ≤ 18446744073709551615 := by simp [inR, IntKind.min, IntKind.max, IntKind.signed, IntKind.bits]
theorem half_ofs {i j m : Nat} (h : (i + j) / 2 = m) : ((i : Int) + (j : Int)).fdiv (2 ^ min 1 IntKind.u64.bits) = (m : Int) := by
  have e : (2 : Int) ^ min 1 IntKind.u64.bits = 2 := by decide
  rw [e, Int.fdiv_eq_ediv_of_nonneg _ (by omega)]
  omega
/-- What a merge takes: two sorted parts, the numbers of the first ahead of all of the second one. -/
structure MergeOk (T : Int → Prop) (lt : Int → Int → Bool) (A B : List Int) : Prop where
  kinds : ∀ x ∈ A ++ B, T x
  left : Srt lt A
  right : Srt lt B
  apart : ∀ x ∈ A, ∀ y ∈ B, x < y
theorem MergeOk.nodup {T : Int → Prop} {lt : Int → Int → Bool} {A B : List Int} (hl : Lts lt) (h : MergeOk T lt A B) : (A ++ B).Nodup :=
  List.nodup_append.2 ⟨Srt.nodup hl h.left, Srt.nodup hl h.right, fun x hx y hy e => by have := h.apart x hx y hy; omega⟩
theorem MergeOk.sub {T : Int → Prop} {lt : Int → Int → Bool} {A B A' B' : List Int} (h : MergeOk T lt A B) (ha : A'.Sublist A) (hb : B'.Sublist B) : MergeOk T lt A' B' :=
  ⟨fun x hx => h.kinds x ((List.mem_append.1 hx).elim (fun hx => List.mem_append.2 (.inl (ha.subset hx))) fun hx => List.mem_append.2 (.inr (hb.subset hx))), h.left.sublist ha, h.right.sublist hb, fun x hx y hy => h.apart x (ha.subset hx) y (hb.subset hy)⟩
theorem get_app3 (P A S : List Int) {i : Nat} (h : i < A.length) : (P ++ A ++ S)[P.length + i]?.getD 0 = A[i]?.getD 0 := by
  rw [List.append_assoc, List.getElem?_append_right (by omega), Nat.add_sub_cancel_left, List.getElem?_append_left h]
theorem mem_at {A : List Int} {i : Nat} (h : i < A.length) : A[i]?.getD 0 ∈ A := by
  rw [List.getElem?_eq_getElem h]; exact List.getElem_mem h
theorem swp_swp (L : List Int) {i j : Nat} (h : i < j) (hj : j < L.length) : swp (swp L i j) i j = L := by
  unfold swp
  apply List.ext_getElem?
  intro k
  simp only [List.getElem?_set, List.length_set]
  have hi : i < L.length := by omega
  by_cases h1 : j = k
  · subst h1
    simp [hj, hi, show ¬ j = i by omega]
  · by_cases h2 : i = k
    · subst h2
      simp [h1, hj, hi]
    · simp [h1, h2]
abbrev SymOk (g : FuncId) (caps : List D) (P A B S : List Int) (lt : Int → Int → Bool) (a m b : Int) : Prop :=
  FnMem Tryz.prog 198 [.os 100000 (P ++ A ++ B ++ S).length, .d (int a), .d (int m), .d (int b), .d (.clo (.func g) caps)] [obI (P ++ A ++ B ++ S)] noV [obI (P ++ srt lt (A ++ B) ++ S)]
/-- One number ahead of a sorted part. -/
theorem symOne_ok {g : FuncId} {caps : List D} {T : Int → Prop} {lt : Int → Int → Bool} {cmp : Int → Int → Int} (H : CmpOk g caps T lt cmp) (P : List Int) (x : Int) (B S : List Int) (a m b : Int) (ha : a = P.length) (hm : m = P.length + 1) (hb : b = P.length + 1 + B.length)
    (hM : MergeOk T lt [x] B) (hl : (P ++ [x] ++ B ++ S).length ≤ 300) : SymOk g caps P [x] B S lt a m b := by
  unfold SymOk
  refine fnMem Tryz.func198 rfl (by kernel_rfl) Tryz.ntmps198 _ rfl (by simp) fun C hc => ?_
  obtain ⟨N, hN⟩ : ∃ N, N = (P ++ [x] ++ B ++ S).length := ⟨_, rfl⟩
  have hNl : N = P.length + 1 + B.length + S.length := by rw [hN]; simp; omega
  have hx0 : (P ++ [x] ++ B ++ S)[P.length]?.getD 0 = x := by
    have := get_mid P (B ++ S) x
    rw [show P ++ [x] ++ B ++ S = P ++ x :: (B ++ S) by simp]; exact this
  have hy0 : ∀ i, i < B.length → (P ++ [x] ++ B ++ S)[P.length + 1 + i]?.getD 0 = B[i]?.getD 0 := fun i hi => by
    have := get_app3 (P ++ [x]) B S hi
    rwa [show (P ++ [x]).length = P.length + 1 by simp] at this
  have hTx : T x := hM.kinds x (by simp)
  have hTy : ∀ i, i < B.length → T (B[i]?.getD 0) ∧ x < B[i]?.getD 0 := fun i hi => ⟨hM.kinds _ (by simp [mem_at hi]), hM.apart x (by simp) _ (mem_at hi)⟩
  rw [← hN] at hl ⊢
  obtain ⟨p, hp⟩ : ∃ p, p = P.length := ⟨_, rfl⟩
  have ha2 : a = (p : Int) := by omega
  obtain ⟨e, he⟩ : ∃ e : Nat, e = p + 1 + B.length := ⟨_, rfl⟩
  have hm2 : m = ((p + 1 : Nat) : Int) := by omega
  have hb2 : b = (e : Int) := by omega
  subst ha2 hm2 hb2
  rw [← hp] at hx0 hy0
  -- where it belongs
  obtain ⟨W, hW⟩ : ∃ W, W = P ++ [x] ++ B ++ S := ⟨_, rfl⟩
  have hWl : W.length = N := by rw [hW, hN]
  rw [← hW] at hx0 hy0 ⊢
  repeat' (first | (first | refine Ya ?_ | refine Yb ?_ | refine Yc ?_ | refine Yd ?_ | refine Ye ?_ | refine Yf ?_ | refine Yg ?_ | refine Yh ?_ | refine Yi ?_ | refine Yj ?_ | refine Yk ?_ | refine Yl ?_ | refine Ym ?_ | refine Yn ?_ | refine Yo ?_ | refine Yp (h := ?_) | refine Yq ?_ | refine Yr ?_ | refine Ys ?_ | refine Zr hc (hk := ?_) | refine Zd hc (hk := ?_) | (refine Zc (ht := fun hb => ?_) (hf := fun hb => ?_) <;> (try simp at hb)) | fail) | (first | refine Zo hc (hk := ?_) | refine Zu hc (hk := ?_) | refine Ze hc (hk := ?_) | fail))
  all_goals try (exfalso; omega)
  refine ewp_loop (fun u : Nat × Nat => ⟨[(0, .os 100000 N), (1, .d (int p)), (4, .d (.clo (.func g) caps)), (10, .d (int u.1)), (11, .d (int u.2))], [obI W]⟩)
    (fun u => p + 1 ≤ u.1 ∧ u.1 ≤ u.2 ∧ u.2 ≤ e ∧ (p + 1 < u.1 → lt (B[u.1 - (p + 2)]?.getD 0) x = true) ∧ (u.2 < e → lt x (B[u.2 - (p + 1)]?.getD 0) = true)) (fun u => u.2 - u.1) (p + 1, e) ⟨by simp, by simp only; omega, by simp, fun h => by simp only at h; omega, fun h => by simp only at h; omega⟩ (run_back [0, 1, 4, 10, 11] [100000] (by simp; exact Gives.mk) (by simp; exact Gives.mk) (by simp)) ?_
  rintro ⟨i, j⟩ ⟨k1, k2, k3, k4, k5⟩
  simp only at k1 k2 k3 k4 k5 ⊢
  by_cases hij : i < j
  · obtain ⟨h, hh, hh1, hh2⟩ : ∃ h : Nat, (i + j) / 2 = h ∧ i ≤ h ∧ h < j := ⟨_, rfl, by omega, by omega⟩
    have hfd := half_ofs hh
    have hi2 : h - (p + 1) < B.length := by omega
    have hyh := hy0 (h - (p + 1)) hi2
    rw [show p + 1 + (h - (p + 1)) = h by omega] at hyh
    obtain ⟨t1, t2⟩ := hTy _ hi2
    have hC := H.fn (B[h - (p + 1)]?.getD 0) x t1 hTx
    have hs := H.says (B[h - (p + 1)]?.getD 0) x t1 hTx t2
    have hne : B[h - (p + 1)]?.getD 0 ≠ x := by omega
    generalize cmp (B[h - (p + 1)]?.getD 0) x = z at hC hs
    rw [← hx0, ← hyh] at hC
    repeat' (first | (first | refine ewp_seq ?_ | refine run_region hc (by simp [hfd]; exact Ends.go) (by first | exact True.intro | omega | assumption | (simp; done) | (simp; omega) | (simp at *; omega)) ?_ | refine run_draw hc (by kernel_rfl) (by kernel_rfl) (by simp [hfd]; exact Ends.go) (by first | exact True.intro | omega | assumption | (simp; done) | (simp; omega) | (simp at *; omega)) ?_ | refine ewp_scope ?_ | refine scopeQ_normal ?_ | refine scopeQ_ret ?_ | refine scopeQ_exit ?_ | refine ewp_skip ?_ | refine ewp_block ?_ | refine ewp_exit ?_ | refine ewp_label ?_ | refine thenQ_normal ?_ | refine thenQ_ret ?_ | refine thenQ_exit ?_ | refine blockQ_normal ?_ | refine blockQ_ret ?_ | refine blockQ_here ?_ | refine blockQ_there (by decide) ?_ | refine ewp_ret ?_ | refine opsW_nil ?_ | refine quietW_nil ?_ | (refine run_cond (by simp [hfd]; exact Gives.mk) (fun hb => ?_) (fun hb => ?_) <;> (try simp at hb)) | fail) | (first | refine run_callW hc (by simp [hfd]; exact Gives.mk) (by simp [hfd]; exact Gives.mk) (by simp [hfd]; exact Gives.mk) (by simp [hfd]; exact Gives.mk) (by simp [hfd]; exact Gives.mk) (fun _ => by first | exact hC) (by simp) (by simp) ?_ | refine run_callQ hc (by simp [hfd]; exact Gives.mk) (by simp [hfd]; exact Gives.mk) (by simp [hfd]; exact Gives.mk) (by simp [hfd]; exact Gives.mk) (by simp [hfd]; exact Gives.mk) (fun _ => by first | exact hC) (by simp) (by simp) ?_ | refine run_ops hc (by simp [hfd]; first | exact Ends.go | exact Ends.halt) (by decide) (by first | exact True.intro | omega | assumption | (simp; done) | (simp; omega) | (simp at *; omega)) ?_ | refine run_quiet hc (by simp [hfd]; first | exact Ends.go | exact Ends.halt) (by decide) (by first | exact True.intro | omega | assumption | (simp; done) | (simp; omega) | (simp at *; omega)) ?_ | refine run_regionW hc (by simp [hfd]; exact Ends.halt) (by first | exact True.intro | omega | assumption | (simp; done) | (simp; omega) | (simp at *; omega)) ?_ | refine run_drawN hc (by kernel_rfl) (by decide) (by kernel_rfl) (by simp [hfd]; exact Ends.halt) (by first | exact True.intro | omega | assumption | (simp; done) | (simp; omega) | (simp at *; omega)) ?_ | fail))
    all_goals try contradiction
    all_goals try (exfalso; omega)
    · refine ⟨(h + 1, j), ⟨by simp only; omega, by simp only; omega, by simp only; omega, fun _ => ?_, k5⟩, by simp only; omega, run_back [0, 1, 4, 10, 11] [100000] (by simp; exact Gives.mk) (by simp; exact Gives.mk) (by simp)⟩
      simp only
      rw [show h + 1 - (p + 2) = h - (p + 1) by omega]
      exact hs.1 hb
    · refine ⟨(i, h), ⟨k1, by simp only; omega, by simp only; omega, k4, fun _ => ?_⟩, by simp only; omega, run_back [0, 1, 4, 10, 11] [100000] (by simp; exact Gives.mk) (by simp; exact Gives.mk) (by simp)⟩
      simp only
      exact (H.lts.tot _ _ hne).resolve_left fun h => by have := hs.2 h; omega
  obtain rfl : i = j := by omega
  have hfin : P ++ srt lt ([x] ++ B) ++ S = insRow P B (i - (p + 1)) x [] S := by
    rw [← put_first H.lts hM.right (k := i - (p + 1)) (by omega) (fun h0 => ?_) (fun h0 => k5 (by omega))]
    · unfold insRow; simp
    · have := k4 (by omega)
      rwa [show i - (p + 2) = i - (p + 1) - 1 by omega] at this
  rw [hfin]
  have hW0 : W = insRow P B 0 x [] S := by rw [hW]; unfold insRow; simp
  rw [hW0]
  clear hfin hW0 k4 k5 hx0 hy0 hTy
  obtain ⟨q0, hq0⟩ : ∃ q0, q0 = i - (p + 1) := ⟨_, rfl⟩
  rw [← hq0]
  have hi2 : i = p + 1 + q0 := by omega
  repeat' (first | (first | refine Ya ?_ | refine Yb ?_ | refine Yc ?_ | refine Yd ?_ | refine Ye ?_ | refine Yf ?_ | refine Yg ?_ | refine Yh ?_ | refine Yi ?_ | refine Yj ?_ | refine Yk ?_ | refine Yl ?_ | refine Ym ?_ | refine Yn ?_ | refine Yo ?_ | refine Yp (h := ?_) | refine Yq ?_ | refine Yr ?_ | refine Ys ?_ | refine Zr hc (hk := ?_) | refine Zd hc (hk := ?_) | (refine Zc (ht := fun hb => ?_) (hf := fun hb => ?_) <;> (try simp at hb)) | fail) | (first | refine Zo hc (hk := ?_) | refine Zu hc (hk := ?_) | refine Ze hc (hk := ?_) | fail))
  all_goals try (exfalso; omega)
  refine ewp_loop (fun k : Nat => ⟨[(0, .os 100000 N), (10, .d (int i)), (13, .d (int k))], [obI (insRow P B (k - p) x [] S)]⟩)
    (fun k => p ≤ k ∧ k ≤ p + q0) (fun k => p + q0 - k) p ⟨Nat.le_refl _, by omega⟩ (run_back [0, 10, 13] [100000] (by simp; exact Gives.mk) (by simp; exact Gives.mk) (by simp)) ?_
  rintro k ⟨hk1, hk2⟩
  have hrl := insRow_len P B (k - p) x [] S (by omega)
  rw [List.length_nil] at hrl
  rcases Nat.lt_or_ge k (p + q0) with hkq | hkq
  · have hsw := insRow_swp P B (k - p + 1) x [] S (by omega) (by omega)
    rw [show P.length + (k - p + 1 - 1) = k by omega, show P.length + (k - p + 1) = k + 1 by omega, Nat.add_sub_cancel] at hsw
    have hsw2 : swp (insRow P B (k - p) x [] S) k (k + 1) = insRow P B (k - p + 1) x [] S := by
      rw [← hsw, swp_swp _ (by omega) (by rw [insRow_len _ _ _ _ _ _ (by omega)]; simp; omega)]
    generalize insRow P B (k - p) x [] S = W at *
    have hmp := swp_map W k (k + 1)
    rw [hsw2] at hmp
    have htl2 := row_tail W k (k + 1) (W[k + 1]?.getD 0)
    repeat' (first | (first | refine Ya ?_ | refine Yb ?_ | refine Yc ?_ | refine Yd ?_ | refine Ye ?_ | refine Yf ?_ | refine Yg ?_ | refine Yh ?_ | refine Yi ?_ | refine Yj ?_ | refine Yk ?_ | refine Yl ?_ | refine Ym ?_ | refine Yn ?_ | refine Yo ?_ | refine Yp (h := ?_) | refine Yq ?_ | refine Yr ?_ | refine Ys ?_ | refine Zr hc (hk := ?_) | refine Zd hc (hk := ?_) | (refine Zc (ht := fun hb => ?_) (hf := fun hb => ?_) <;> (try simp at hb)) | fail) | (first | refine Zo hc (hk := ?_) | refine Zu hc (hk := ?_) | refine Ze hc (hk := ?_) | fail))
    all_goals try (exfalso; omega)
    refine ewp_le (run_keep [0, 10, 13] [100000] (by simp; exact Gives.mk) (by simp; exact Gives.mk)) ?_
    (apply run_drawAny 18 hc (by kernel_rfl) rfl; (focus (refine run_anyM 0 hc rfl (by kernel_rfl) rfl (by first | exact .inl rfl | exact .inr rfl) (by simp; exact Gives.mk) (by simp) (by simp; exact Gives.mk) ?_; refine run_anyM 1 hc rfl (by kernel_rfl) rfl (by first | exact .inl rfl | exact .inr rfl) (by simp; exact Gives.mk) (by simp) (by simp; exact Gives.mk) ?_; refine run_anyM 2 hc rfl (by kernel_rfl) rfl (by first | exact .inl rfl | exact .inr rfl) (by simp; exact Gives.mk) (by simp) (by simp; exact Gives.mk) ?_; refine run_anyM 3 hc rfl (by kernel_rfl) rfl (by first | exact .inl rfl | exact .inr rfl) (by simp; exact Gives.mk) (by simp) (by simp; exact Gives.mk) ?_; refine run_anyP 4 hc rfl (by kernel_rfl) rfl (by simp; exact Gives.mk) (by first | exact True.intro | omega | (simp; done) | (simp; omega) | (simp at *; omega)) (by simp) (by simp) (by simp; exact Gives.mk) ?_; refine run_anyM 5 hc rfl (by kernel_rfl) rfl (by first | exact .inl rfl | exact .inr rfl) (by simp; exact Gives.mk) (by simp) (by simp; exact Gives.mk) ?_; refine run_anyM 6 hc rfl (by kernel_rfl) rfl (by first | exact .inl rfl | exact .inr rfl) (by simp; exact Gives.mk) (by simp) (by simp; exact Gives.mk) ?_; refine run_anyP 7 hc rfl (by kernel_rfl) rfl (by simp; exact Gives.mk) (by first | exact True.intro | omega | (simp; done) | (simp; omega) | (simp at *; omega)) (by simp) (by simp) (by simp; exact Gives.mk) ?_; refine run_anyM 10 hc rfl (by kernel_rfl) rfl (by first | exact .inl rfl | exact .inr rfl) (by simp; exact Gives.mk) (by simp) (by simp; exact Gives.mk) ?_; refine run_anyM 11 hc rfl (by kernel_rfl) rfl (by first | exact .inl rfl | exact .inr rfl) (by simp; exact Gives.mk) (by simp) (by simp; exact Gives.mk) ?_; refine anyW_all [8, 12] (by kernel_rfl) rfl ?_; refine ⟨?_, ?_⟩; (focus (refine run_stepW hc rfl (by simp; exact Ends.go) (by first | exact True.intro | omega | (simp; done) | (simp; omega) | (simp at *; omega)) ?q110; refine anyW_all [9, 12] (by kernel_rfl) rfl ?nq110; refine ⟨?_, ?_⟩; (focus (refine run_stepW hc rfl (by simp; exact Ends.go) (by first | exact True.intro | omega | (simp; done) | (simp; omega) | (simp at *; omega)) ?q111; refine anyW_all [12] (by kernel_rfl) rfl ?nq111; (focus (refine run_stepW hc rfl (by simp; exact Ends.go) (by first | exact True.intro | omega | (simp; done) | (simp; omega) | (simp at *; omega)) ?q112; refine anyW_all [13] (by kernel_rfl) rfl ?nq112; (focus (refine run_stepW hc rfl (by simp; exact Ends.go) (by first | exact True.intro | omega | (simp; done) | (simp; omega) | (simp at *; omega)) ?q113; refine anyW_all [14] (by kernel_rfl) rfl ?nq113; (focus (refine run_stepW hc rfl (by simp; exact Ends.go) (by first | exact True.intro | omega | (simp; done) | (simp; omega) | (simp at *; omega)) ?q114; refine anyW_all [15] (by kernel_rfl) rfl ?nq114; (focus (refine run_stepW hc rfl (by simp; exact Ends.go) (by first | exact True.intro | omega | (simp; done) | (simp; omega) | (simp at *; omega)) ?q115; refine anyW_all [16] (by kernel_rfl) rfl ?nq115; (focus (refine run_stepW hc rfl (by simp; exact Ends.go) (by first | exact True.intro | omega | (simp; done) | (simp; omega) | (simp at *; omega)) ?q116; refine anyW_all [17] (by kernel_rfl) rfl ?nq116; (focus (refine run_stepW hc rfl (by simp; exact Ends.go) (by first | exact True.intro | omega | (simp; done) | (simp; omega) | (simp at *; omega)) ?q117; refine anyW_done (by kernel_rfl) ?nq117; exact run_keep [0, 10, 13] [100000] (by simp; try exact Gives.mk) (by simp; try exact Gives.mk))))))))))))))); (focus (refine run_stepW hc rfl (by simp; exact Ends.go) (by first | exact True.intro | omega | (simp; done) | (simp; omega) | (simp at *; omega)) ?q118; refine anyW_all [9, 13] (by kernel_rfl) rfl ?nq118; refine ⟨?_, ?_⟩; (focus (refine run_stepW hc rfl (by simp; exact Ends.go) (by first | exact True.intro | omega | (simp; done) | (simp; omega) | (simp at *; omega)) ?_; exact anyW_le (run_back [0, 10, 13, 61, 62, 63, 64, 65, 66, 67, 68, 71, 72, 69, 70, 73] [100000] (by simp; exact Gives.mk) (by simp; exact Gives.mk) (by simp)) ?q112)); (focus (refine run_stepW hc rfl (by simp; exact Ends.go) (by first | exact True.intro | omega | (simp; done) | (simp; omega) | (simp at *; omega)) ?q119; refine anyW_all [9] (by kernel_rfl) rfl ?nq119; (focus (refine run_stepW hc rfl (by simp; exact Ends.go) (by first | exact True.intro | omega | (simp; done) | (simp; omega) | (simp at *; omega)) ?_; exact anyW_le (run_back [0, 10, 13, 61, 62, 63, 64, 65, 66, 67, 68, 71, 72, 69, 70, 73, 74] [100000] (by simp; exact Gives.mk) (by simp; exact Gives.mk) (by simp)) ?q113)))))))); (focus (refine run_stepW hc rfl (by simp; exact Ends.go) (by first | exact True.intro | omega | (simp; done) | (simp; omega) | (simp at *; omega)) ?q1110; refine anyW_all [8, 13] (by kernel_rfl) rfl ?nq1110; refine ⟨?_, ?_⟩; (focus (refine run_stepW hc rfl (by simp; exact Ends.go) (by first | exact True.intro | omega | (simp; done) | (simp; omega) | (simp at *; omega)) ?_; exact anyW_le (run_back [0, 10, 13, 61, 62, 63, 64, 65, 66, 67, 68, 71, 72, 69, 73] [100000] (by simp; exact Gives.mk) (by simp; exact Gives.mk) (by simp)) ?q118)); (focus (refine run_stepW hc rfl (by simp; exact Ends.go) (by first | exact True.intro | omega | (simp; done) | (simp; omega) | (simp at *; omega)) ?q1111; refine anyW_all [8] (by kernel_rfl) rfl ?nq1111; (focus (refine run_stepW hc rfl (by simp; exact Ends.go) (by first | exact True.intro | omega | (simp; done) | (simp; omega) | (simp at *; omega)) ?_; exact anyW_le (run_back [0, 10, 13, 61, 62, 63, 64, 65, 66, 67, 68, 71, 72, 69, 73, 74] [100000] (by simp; exact Gives.mk) (by simp; exact Gives.mk) (by simp)) ?q119)))))))))
    repeat' (first | (first | refine Ya ?_ | refine Yb ?_ | refine Yc ?_ | refine Yd ?_ | refine Ye ?_ | refine Yf ?_ | refine Yg ?_ | refine Yh ?_ | refine Yi ?_ | refine Yj ?_ | refine Yk ?_ | refine Yl ?_ | refine Ym ?_ | refine Yn ?_ | refine Yo ?_ | refine Yp (h := ?_) | refine Yq ?_ | refine Yr ?_ | refine Ys ?_ | refine Zr hc (hk := ?_) | refine Zd hc (hk := ?_) | (refine Zc (ht := fun hb => ?_) (hf := fun hb => ?_) <;> (try simp at hb)) | fail) | (first | refine Zo hc (hk := ?_) | refine Zu hc (hk := ?_) | refine Ze hc (hk := ?_) | fail))
    all_goals try (exfalso; omega)
    refine ⟨k + 1, ⟨by omega, by omega⟩, by omega, run_back [0, 10, 13] [100000] (by simp; exact Gives.mk) (by simp; exact Gives.mk) ?_⟩
    rw [show k + 1 - p = k - p + 1 by omega]
    simp [htl2]
    exact hmp.symm
  · obtain rfl : k = p + q0 := by omega
    rw [Nat.add_sub_cancel_left]
    repeat' (first | (first | refine Ya ?_ | refine Yb ?_ | refine Yc ?_ | refine Yd ?_ | refine Ye ?_ | refine Yf ?_ | refine Yg ?_ | refine Yh ?_ | refine Yi ?_ | refine Yj ?_ | refine Yk ?_ | refine Yl ?_ | refine Ym ?_ | refine Yn ?_ | refine Yo ?_ | refine Yp (h := ?_) | refine Yq ?_ | refine Yr ?_ | refine Ys ?_ | refine Zr hc (hk := ?_) | refine Zd hc (hk := ?_) | (refine Zc (ht := fun hb => ?_) (hf := fun hb => ?_) <;> (try simp at hb)) | fail) | (first | refine Zo hc (hk := ?_) | refine Zu hc (hk := ?_) | refine Ze hc (hk := ?_) | fail))
    all_goals try (exfalso; omega)
    (refine run_leaveM [100000] hc (le_end rfl) (by simp; exact Gives.mk) (by simp; exact Gives.mk) (by first | (simp; done) | (simp; omega)) ?_)
    simp
end Go.Proofs.YtnainpghpjelcaaGreatDoor
/-
  SORTING: slices.SortStableFunc's parts at numbers: merging one number behind. (WITH run_drawN.)
-/
set_option linter.unusedSimpArgs false
set_option linter.unusedVariables false
namespace Go.Proofs.YtnainpghpjelcaaGreatDoor
open Go.Lw Go.RowKit
set_option maxRecDepth 100000
set_option maxHeartbeats 8000000

/-- One number behind a sorted part. -/
theorem symLast_ok {g : FuncId} {caps : List D} {T : Int → Prop} {lt : Int → Int → Bool} {cmp : Int → Int → Int} (H : CmpOk g caps T lt cmp) (P A : List Int) (y : Int) (S : List Int) (a m b : Int) (ha : a = P.length) (hm : m = P.length + A.length) (hb : b = P.length + A.length + 1)
    (hM : MergeOk T lt A [y]) (hA1 : A.length ≠ 1) (hl : (P ++ A ++ [y] ++ S).length ≤ 300) : SymOk g caps P A [y] S lt a m b := by
  unfold SymOk
  refine fnMem Tryz.func198 rfl (by kernel_rfl) Tryz.ntmps198 _ rfl (by simp) fun C hc => ?_
  obtain ⟨N, hN⟩ : ∃ N, N = (P ++ A ++ [y] ++ S).length := ⟨_, rfl⟩
  have hNl : N = P.length + A.length + 1 + S.length := by rw [hN]; simp; omega
  have hy0 : (P ++ A ++ [y] ++ S)[P.length + A.length]?.getD 0 = y := by
    have := get_mid (P ++ A) S y
    rw [show P ++ A ++ [y] ++ S = (P ++ A) ++ y :: S by simp, show P.length + A.length = (P ++ A).length by simp]; exact this
  have hx0 : ∀ i, i < A.length → (P ++ A ++ [y] ++ S)[P.length + i]?.getD 0 = A[i]?.getD 0 := fun i hi => by
    have := get_app3 P A ([y] ++ S) hi
    rwa [show P ++ A ++ ([y] ++ S) = P ++ A ++ [y] ++ S by simp] at this
  have hTy : T y := hM.kinds y (by simp)
  have hTx : ∀ i, i < A.length → T (A[i]?.getD 0) ∧ A[i]?.getD 0 < y := fun i hi => ⟨hM.kinds _ (by simp [mem_at hi]), hM.apart _ (mem_at hi) y (by simp)⟩
  rw [← hN] at hl ⊢
  obtain ⟨p, hp⟩ : ∃ p, p = P.length := ⟨_, rfl⟩
  have ha2 : a = (p : Int) := by omega
  obtain ⟨e, he⟩ : ∃ e : Nat, e = p + A.length := ⟨_, rfl⟩
  have hm2 : m = (e : Int) := by omega
  have hb2 : b = ((e + 1 : Nat) : Int) := by omega
  subst ha2 hm2 hb2
  rw [← hp] at hx0 hy0
  rw [← he] at hy0
  obtain ⟨W, hW⟩ : ∃ W, W = P ++ A ++ [y] ++ S := ⟨_, rfl⟩
  have hWl : W.length = N := by rw [hW, hN]
  rw [← hW] at hx0 hy0 ⊢
  repeat' (first | (first | refine Ya ?_ | refine Yb ?_ | refine Yc ?_ | refine Yd ?_ | refine Ye ?_ | refine Yf ?_ | refine Yg ?_ | refine Yh ?_ | refine Yi ?_ | refine Yj ?_ | refine Yk ?_ | refine Yl ?_ | refine Ym ?_ | refine Yn ?_ | refine Yo ?_ | refine Yp (h := ?_) | refine Yq ?_ | refine Yr ?_ | refine Ys ?_ | refine Zr hc (hk := ?_) | refine Zd hc (hk := ?_) | (refine Zc (ht := fun hb => ?_) (hf := fun hb => ?_) <;> (try simp at hb)) | fail) | (first | refine Zo hc (hk := ?_) | refine Zu hc (hk := ?_) | refine Ze hc (hk := ?_) | fail))
  all_goals try (exfalso; omega)
  refine ewp_loop (fun u : Nat × Nat => ⟨[(0, .os 100000 N), (2, .d (int e)), (4, .d (.clo (.func g) caps)), (14, .d (int u.1)), (15, .d (int u.2))], [obI W]⟩)
    (fun u => p ≤ u.1 ∧ u.1 ≤ u.2 ∧ u.2 ≤ e ∧ (p < u.1 → lt (A[u.1 - (p + 1)]?.getD 0) y = true) ∧ (u.2 < e → lt y (A[u.2 - p]?.getD 0) = true)) (fun u => u.2 - u.1) (p, e) ⟨by simp, by simp only; omega, by simp, fun h => by simp only at h; omega, fun h => by simp only at h; omega⟩ (run_back [0, 2, 4, 14, 15] [100000] (by simp; exact Gives.mk) (by simp; exact Gives.mk) (by simp)) ?_
  rintro ⟨i, j⟩ ⟨k1, k2, k3, k4, k5⟩
  simp only at k1 k2 k3 k4 k5 ⊢
  by_cases hij : i < j
  · obtain ⟨h, hh, hh1, hh2⟩ : ∃ h : Nat, (i + j) / 2 = h ∧ i ≤ h ∧ h < j := ⟨_, rfl, by omega, by omega⟩
    have hfd := half_ofs hh
    have hi2 : h - p < A.length := by omega
    have hxh := hx0 (h - p) hi2
    rw [show p + (h - p) = h by omega] at hxh
    obtain ⟨t1, t2⟩ := hTx _ hi2
    have hC := H.fn y (A[h - p]?.getD 0) hTy t1
    have hs := H.says y (A[h - p]?.getD 0) hTy t1 t2
    have hne : A[h - p]?.getD 0 ≠ y := by omega
    generalize cmp y (A[h - p]?.getD 0) = z at hC hs
    rw [← hy0, ← hxh] at hC
    repeat' (first | (first | refine ewp_seq ?_ | refine run_region hc (by simp [hfd]; exact Ends.go) (by first | exact True.intro | omega | assumption | (simp; done) | (simp; omega) | (simp at *; omega)) ?_ | refine run_draw hc (by kernel_rfl) (by kernel_rfl) (by simp [hfd]; exact Ends.go) (by first | exact True.intro | omega | assumption | (simp; done) | (simp; omega) | (simp at *; omega)) ?_ | refine ewp_scope ?_ | refine scopeQ_normal ?_ | refine scopeQ_ret ?_ | refine scopeQ_exit ?_ | refine ewp_skip ?_ | refine ewp_block ?_ | refine ewp_exit ?_ | refine ewp_label ?_ | refine thenQ_normal ?_ | refine thenQ_ret ?_ | refine thenQ_exit ?_ | refine blockQ_normal ?_ | refine blockQ_ret ?_ | refine blockQ_here ?_ | refine blockQ_there (by decide) ?_ | refine ewp_ret ?_ | refine opsW_nil ?_ | refine quietW_nil ?_ | (refine run_cond (by simp [hfd]; exact Gives.mk) (fun hb => ?_) (fun hb => ?_) <;> (try simp at hb)) | fail) | (first | refine run_callW hc (by simp [hfd]; exact Gives.mk) (by simp [hfd]; exact Gives.mk) (by simp [hfd]; exact Gives.mk) (by simp [hfd]; exact Gives.mk) (by simp [hfd]; exact Gives.mk) (fun _ => by first | exact hC) (by simp) (by simp) ?_ | refine run_callQ hc (by simp [hfd]; exact Gives.mk) (by simp [hfd]; exact Gives.mk) (by simp [hfd]; exact Gives.mk) (by simp [hfd]; exact Gives.mk) (by simp [hfd]; exact Gives.mk) (fun _ => by first | exact hC) (by simp) (by simp) ?_ | refine run_ops hc (by simp [hfd]; first | exact Ends.go | exact Ends.halt) (by decide) (by first | exact True.intro | omega | assumption | (simp; done) | (simp; omega) | (simp at *; omega)) ?_ | refine run_quiet hc (by simp [hfd]; first | exact Ends.go | exact Ends.halt) (by decide) (by first | exact True.intro | omega | assumption | (simp; done) | (simp; omega) | (simp at *; omega)) ?_ | refine run_regionW hc (by simp [hfd]; exact Ends.halt) (by first | exact True.intro | omega | assumption | (simp; done) | (simp; omega) | (simp at *; omega)) ?_ | refine run_drawN hc (by kernel_rfl) (by decide) (by kernel_rfl) (by simp [hfd]; exact Ends.halt) (by first | exact True.intro | omega | assumption | (simp; done) | (simp; omega) | (simp at *; omega)) ?_ | fail))
    all_goals try contradiction
    all_goals try (exfalso; omega)
    · refine ⟨(h + 1, j), ⟨by simp only; omega, by simp only; omega, by simp only; omega, fun _ => ?_, k5⟩, by simp only; omega, run_back [0, 2, 4, 14, 15] [100000] (by simp; exact Gives.mk) (by simp; exact Gives.mk) (by simp)⟩
      simp only
      rw [show h + 1 - (p + 1) = h - p by omega]
      exact (H.lts.tot _ _ hne).resolve_right fun h => by have := hs.2 h; omega
    · refine ⟨(i, h), ⟨k1, by simp only; omega, by simp only; omega, k4, fun _ => ?_⟩, by simp only; omega, run_back [0, 2, 4, 14, 15] [100000] (by simp; exact Gives.mk) (by simp; exact Gives.mk) (by simp)⟩
      simp only
      exact hs.1 hb
  obtain rfl : i = j := by omega
  have hfin : P ++ srt lt (A ++ [y]) ++ S = insRow P A (i - p) y [] S := by
    rw [← put_last H.lts hM.left (k := i - p) (by omega) (fun h0 => ?_) (fun h0 => k5 (by omega))]
    · unfold insRow; simp
    · have := k4 (by omega)
      rwa [show i - (p + 1) = i - p - 1 by omega] at this
  rw [hfin]
  have hW0 : W = insRow P A A.length y [] S := by rw [hW]; unfold insRow; simp
  rw [hW0]
  clear hfin hW0 k4 k5 hx0 hy0 hTx
  obtain ⟨q0, hq0⟩ : ∃ q0, q0 = i - p := ⟨_, rfl⟩
  rw [← hq0]
  have hi2 : i = p + q0 := by omega
  have eA : A.length = e - p := by omega
  rw [eA]
  repeat' (first | (first | refine Ya ?_ | refine Yb ?_ | refine Yc ?_ | refine Yd ?_ | refine Ye ?_ | refine Yf ?_ | refine Yg ?_ | refine Yh ?_ | refine Yi ?_ | refine Yj ?_ | refine Yk ?_ | refine Yl ?_ | refine Ym ?_ | refine Yn ?_ | refine Yo ?_ | refine Yp (h := ?_) | refine Yq ?_ | refine Yr ?_ | refine Ys ?_ | refine Zr hc (hk := ?_) | refine Zd hc (hk := ?_) | (refine Zc (ht := fun hb => ?_) (hf := fun hb => ?_) <;> (try simp at hb)) | fail) | (first | refine Zo hc (hk := ?_) | refine Zu hc (hk := ?_) | refine Ze hc (hk := ?_) | fail))
  all_goals try (exfalso; omega)
  refine ewp_loop (fun k : Nat => ⟨[(0, .os 100000 N), (14, .d (int i)), (17, .d (int k))], [obI (insRow P A (k - p) y [] S)]⟩)
    (fun k => p + q0 ≤ k ∧ k ≤ e) (fun k => k) e ⟨by omega, Nat.le_refl _⟩ (run_keep [0, 14, 17] [100000] (by simp; exact Gives.mk) (by simp; exact Gives.mk)) ?_
  rintro k ⟨hk1, hk2⟩
  have hrl := insRow_len P A (k - p) y [] S (by omega)
  rw [List.length_nil] at hrl
  rcases Nat.lt_or_ge (p + q0) k with hkq | hkq
  · have hsw := insRow_swp P A (k - p) y [] S (by omega) (by omega)
    rw [show P.length + (k - p - 1) = k - 1 by omega, show P.length + (k - p) = k by omega] at hsw
    generalize insRow P A (k - p) y [] S = W at *
    have hmp := swp_map W k (k - 1)
    rw [swp_comm _ (show k ≠ k - 1 by omega), hsw] at hmp
    have htl2 := row_tail W k (k - 1) (W[k - 1]?.getD 0)
    repeat' (first | (first | refine Ya ?_ | refine Yb ?_ | refine Yc ?_ | refine Yd ?_ | refine Ye ?_ | refine Yf ?_ | refine Yg ?_ | refine Yh ?_ | refine Yi ?_ | refine Yj ?_ | refine Yk ?_ | refine Yl ?_ | refine Ym ?_ | refine Yn ?_ | refine Yo ?_ | refine Yp (h := ?_) | refine Yq ?_ | refine Yr ?_ | refine Ys ?_ | refine Zr hc (hk := ?_) | refine Zd hc (hk := ?_) | (refine Zc (ht := fun hb => ?_) (hf := fun hb => ?_) <;> (try simp at hb)) | fail) | (first | refine Zo hc (hk := ?_) | refine Zu hc (hk := ?_) | refine Ze hc (hk := ?_) | fail))
    all_goals try (exfalso; omega)
    refine ewp_le (run_keep [0, 14, 17] [100000] (by simp; exact Gives.mk) (by simp; exact Gives.mk)) ?_
    (apply run_drawAny 18 hc (by kernel_rfl) rfl; (focus (refine run_anyM 0 hc rfl (by kernel_rfl) rfl (by first | exact .inl rfl | exact .inr rfl) (by simp; exact Gives.mk) (by simp) (by simp; exact Gives.mk) ?_; refine run_anyM 1 hc rfl (by kernel_rfl) rfl (by first | exact .inl rfl | exact .inr rfl) (by simp; exact Gives.mk) (by simp) (by simp; exact Gives.mk) ?_; refine run_anyM 2 hc rfl (by kernel_rfl) rfl (by first | exact .inl rfl | exact .inr rfl) (by simp; exact Gives.mk) (by simp) (by simp; exact Gives.mk) ?_; refine run_anyM 3 hc rfl (by kernel_rfl) rfl (by first | exact .inl rfl | exact .inr rfl) (by simp; exact Gives.mk) (by simp) (by simp; exact Gives.mk) ?_; refine run_anyP 4 hc rfl (by kernel_rfl) rfl (by simp; exact Gives.mk) (by first | exact True.intro | omega | (simp; done) | (simp; omega) | (simp at *; omega)) (by simp) (by simp) (by simp; exact Gives.mk) ?_; refine run_anyM 5 hc rfl (by kernel_rfl) rfl (by first | exact .inl rfl | exact .inr rfl) (by simp; exact Gives.mk) (by simp) (by simp; exact Gives.mk) ?_; refine run_anyM 6 hc rfl (by kernel_rfl) rfl (by first | exact .inl rfl | exact .inr rfl) (by simp; exact Gives.mk) (by simp) (by simp; exact Gives.mk) ?_; refine run_anyP 7 hc rfl (by kernel_rfl) rfl (by simp; exact Gives.mk) (by first | exact True.intro | omega | (simp; done) | (simp; omega) | (simp at *; omega)) (by simp) (by simp) (by simp; exact Gives.mk) ?_; refine run_anyM 10 hc rfl (by kernel_rfl) rfl (by first | exact .inl rfl | exact .inr rfl) (by simp; exact Gives.mk) (by simp) (by simp; exact Gives.mk) ?_; refine run_anyM 11 hc rfl (by kernel_rfl) rfl (by first | exact .inl rfl | exact .inr rfl) (by simp; exact Gives.mk) (by simp) (by simp; exact Gives.mk) ?_; refine anyW_all [8, 12] (by kernel_rfl) rfl ?_; refine ⟨?_, ?_⟩; (focus (refine run_stepW hc rfl (by simp; exact Ends.go) (by first | exact True.intro | omega | (simp; done) | (simp; omega) | (simp at *; omega)) ?q230; refine anyW_all [9, 12] (by kernel_rfl) rfl ?nq230; refine ⟨?_, ?_⟩; (focus (refine run_stepW hc rfl (by simp; exact Ends.go) (by first | exact True.intro | omega | (simp; done) | (simp; omega) | (simp at *; omega)) ?q231; refine anyW_all [12] (by kernel_rfl) rfl ?nq231; (focus (refine run_stepW hc rfl (by simp; exact Ends.go) (by first | exact True.intro | omega | (simp; done) | (simp; omega) | (simp at *; omega)) ?q232; refine anyW_all [13] (by kernel_rfl) rfl ?nq232; (focus (refine run_stepW hc rfl (by simp; exact Ends.go) (by first | exact True.intro | omega | (simp; done) | (simp; omega) | (simp at *; omega)) ?q233; refine anyW_all [14] (by kernel_rfl) rfl ?nq233; (focus (refine run_stepW hc rfl (by simp; exact Ends.go) (by first | exact True.intro | omega | (simp; done) | (simp; omega) | (simp at *; omega)) ?q234; refine anyW_all [15] (by kernel_rfl) rfl ?nq234; (focus (refine run_stepW hc rfl (by simp; exact Ends.go) (by first | exact True.intro | omega | (simp; done) | (simp; omega) | (simp at *; omega)) ?q235; refine anyW_all [16] (by kernel_rfl) rfl ?nq235; (focus (refine run_stepW hc rfl (by simp; exact Ends.go) (by first | exact True.intro | omega | (simp; done) | (simp; omega) | (simp at *; omega)) ?q236; refine anyW_all [17] (by kernel_rfl) rfl ?nq236; (focus (refine run_stepW hc rfl (by simp; exact Ends.go) (by first | exact True.intro | omega | (simp; done) | (simp; omega) | (simp at *; omega)) ?q237; refine anyW_done (by kernel_rfl) ?nq237; exact run_keep [0, 14, 17] [100000] (by simp; try exact Gives.mk) (by simp; try exact Gives.mk))))))))))))))); (focus (refine run_stepW hc rfl (by simp; exact Ends.go) (by first | exact True.intro | omega | (simp; done) | (simp; omega) | (simp at *; omega)) ?q238; refine anyW_all [9, 13] (by kernel_rfl) rfl ?nq238; refine ⟨?_, ?_⟩; (focus (refine run_stepW hc rfl (by simp; exact Ends.go) (by first | exact True.intro | omega | (simp; done) | (simp; omega) | (simp at *; omega)) ?_; exact anyW_le (run_back [0, 14, 17, 113, 114, 115, 116, 117, 118, 119, 120, 123, 124, 121, 122, 125] [100000] (by simp; exact Gives.mk) (by simp; exact Gives.mk) (by simp)) ?q232)); (focus (refine run_stepW hc rfl (by simp; exact Ends.go) (by first | exact True.intro | omega | (simp; done) | (simp; omega) | (simp at *; omega)) ?q239; refine anyW_all [9] (by kernel_rfl) rfl ?nq239; (focus (refine run_stepW hc rfl (by simp; exact Ends.go) (by first | exact True.intro | omega | (simp; done) | (simp; omega) | (simp at *; omega)) ?_; exact anyW_le (run_back [0, 14, 17, 113, 114, 115, 116, 117, 118, 119, 120, 123, 124, 121, 122, 125, 126] [100000] (by simp; exact Gives.mk) (by simp; exact Gives.mk) (by simp)) ?q233)))))))); (focus (refine run_stepW hc rfl (by simp; exact Ends.go) (by first | exact True.intro | omega | (simp; done) | (simp; omega) | (simp at *; omega)) ?q2310; refine anyW_all [8, 13] (by kernel_rfl) rfl ?nq2310; refine ⟨?_, ?_⟩; (focus (refine run_stepW hc rfl (by simp; exact Ends.go) (by first | exact True.intro | omega | (simp; done) | (simp; omega) | (simp at *; omega)) ?_; exact anyW_le (run_back [0, 14, 17, 113, 114, 115, 116, 117, 118, 119, 120, 123, 124, 121, 125] [100000] (by simp; exact Gives.mk) (by simp; exact Gives.mk) (by simp)) ?q238)); (focus (refine run_stepW hc rfl (by simp; exact Ends.go) (by first | exact True.intro | omega | (simp; done) | (simp; omega) | (simp at *; omega)) ?q2311; refine anyW_all [8] (by kernel_rfl) rfl ?nq2311; (focus (refine run_stepW hc rfl (by simp; exact Ends.go) (by first | exact True.intro | omega | (simp; done) | (simp; omega) | (simp at *; omega)) ?_; exact anyW_le (run_back [0, 14, 17, 113, 114, 115, 116, 117, 118, 119, 120, 123, 124, 121, 125, 126] [100000] (by simp; exact Gives.mk) (by simp; exact Gives.mk) (by simp)) ?q239)))))))))
    repeat' (first | (first | refine Ya ?_ | refine Yb ?_ | refine Yc ?_ | refine Yd ?_ | refine Ye ?_ | refine Yf ?_ | refine Yg ?_ | refine Yh ?_ | refine Yi ?_ | refine Yj ?_ | refine Yk ?_ | refine Yl ?_ | refine Ym ?_ | refine Yn ?_ | refine Yo ?_ | refine Yp (h := ?_) | refine Yq ?_ | refine Yr ?_ | refine Ys ?_ | refine Zr hc (hk := ?_) | refine Zd hc (hk := ?_) | (refine Zc (ht := fun hb => ?_) (hf := fun hb => ?_) <;> (try simp at hb)) | fail) | (first | refine Zo hc (hk := ?_) | refine Zu hc (hk := ?_) | refine Ze hc (hk := ?_) | fail))
    all_goals try (exfalso; omega)
    refine ⟨k - 1, ⟨by omega, by omega⟩, by omega, run_back [0, 14, 17] [100000] (by simp; exact Gives.mk) (by simp; exact Gives.mk) ?_⟩
    rw [show k - 1 - p = k - p - 1 by omega]
    simp [htl2]
    first | exact hmp.symm | exact ⟨by omega, hmp.symm⟩
  · obtain rfl : k = p + q0 := by omega
    rw [Nat.add_sub_cancel_left]
    repeat' (first | (first | refine Ya ?_ | refine Yb ?_ | refine Yc ?_ | refine Yd ?_ | refine Ye ?_ | refine Yf ?_ | refine Yg ?_ | refine Yh ?_ | refine Yi ?_ | refine Yj ?_ | refine Yk ?_ | refine Yl ?_ | refine Ym ?_ | refine Yn ?_ | refine Yo ?_ | refine Yp (h := ?_) | refine Yq ?_ | refine Yr ?_ | refine Ys ?_ | refine Zr hc (hk := ?_) | refine Zd hc (hk := ?_) | (refine Zc (ht := fun hb => ?_) (hf := fun hb => ?_) <;> (try simp at hb)) | fail) | (first | refine Zo hc (hk := ?_) | refine Zu hc (hk := ?_) | refine Ze hc (hk := ?_) | fail))
    all_goals try (exfalso; omega)
    (refine run_leaveM [100000] hc (le_end rfl) (by simp; exact Gives.mk) (by simp; exact Gives.mk) (by first | (simp; done) | (simp; omega)) ?_)
    simp
end Go.Proofs.YtnainpghpjelcaaGreatDoor
/-
  SORTING: slices.SortStableFunc's parts at numbers: symMerge. (WITH run_drawN.)
-/
set_option linter.unusedSimpArgs false
set_option linter.unusedVariables false
namespace Go.Proofs.YtnainpghpjelcaaGreatDoor
open Go.Lw Go.RowKit
set_option maxRecDepth 100000
set_option maxHeartbeats 16000000

theorem fnMem_eq {P : Program} {f : FuncId} {xs xs' : List V} {os os' rs rs' : List (Nat × O)} {r : V} (h : FnMem P f xs os r rs) (h1 : xs = xs') (h2 : os = os') (h3 : rs = rs') : FnMem P f xs' os' r rs' := by subst h1 h2 h3; exact h
theorem symGen_ok {g : FuncId} {caps : List D} {T : Int → Prop} {lt : Int → Int → Bool} {cmp : Int → Int → Int} (H : CmpOk g caps T lt cmp) (n : Nat)
    (ih : ∀ (P A B S : List Int) (a m b : Int), A.length + B.length ≤ n → 0 < A.length → 0 < B.length → a = P.length → m = P.length + A.length → b = P.length + A.length + B.length → MergeOk T lt A B → (P ++ A ++ B ++ S).length ≤ 300 → SymOk g caps P A B S lt a m b)
    (P A B S : List Int) (a m b : Int) (hn : A.length + B.length ≤ n + 1) (hA2 : 2 ≤ A.length) (hB2 : 2 ≤ B.length) (ha : a = P.length) (hm : m = P.length + A.length) (hb : b = P.length + A.length + B.length)
    (hM : MergeOk T lt A B) (hl : (P ++ A ++ B ++ S).length ≤ 300) : SymOk g caps P A B S lt a m b := by
  unfold SymOk
  refine fnMem Tryz.func198 rfl (by kernel_rfl) Tryz.ntmps198 _ rfl (by simp) fun C hc => ?_
  obtain ⟨N, hN⟩ : ∃ N, N = (P ++ A ++ B ++ S).length := ⟨_, rfl⟩
  have hNl : N = P.length + A.length + B.length + S.length := by rw [hN]; simp; omega
  obtain ⟨p, hp⟩ : ∃ p, p = P.length := ⟨_, rfl⟩
  obtain ⟨mm, hmm⟩ : ∃ mm : Nat, mm = p + A.length := ⟨_, rfl⟩
  obtain ⟨e, he⟩ : ∃ e : Nat, e = mm + B.length := ⟨_, rfl⟩
  obtain ⟨W, hW⟩ : ∃ W, W = P ++ A ++ B ++ S := ⟨_, rfl⟩
  have hWl : W.length = N := by rw [hW, hN]
  have hxA : ∀ c, p ≤ c → c < mm → W[c]?.getD 0 = A[c - p]?.getD 0 := fun c h1 h2 => by
    have := get_app3 P A (B ++ S) (i := c - p) (by omega)
    rwa [show P ++ A ++ (B ++ S) = W by rw [hW]; simp, show P.length + (c - p) = c by omega] at this
  have hxB : ∀ c, mm ≤ c → c < e → W[c]?.getD 0 = B[c - mm]?.getD 0 := fun c h1 h2 => by
    have := get_app3 (P ++ A) B S (i := c - mm) (by omega)
    rwa [show P ++ A ++ B ++ S = W from hW.symm, show (P ++ A).length + (c - mm) = c by rw [List.length_append]; omega] at this
  have ha2 : a = (p : Int) := by omega
  have hm2 : m = (mm : Int) := by omega
  have hb2 : b = (e : Int) := by omega
  subst ha2 hm2 hb2
  obtain ⟨d, hd, hd1, hd2⟩ : ∃ d : Nat, (p + e) / 2 = d ∧ p < d ∧ d < e := ⟨_, rfl, by omega, by omega⟩
  have hfd := half_ofs hd
  have hdd : 2 * d ≤ p + e ∧ p + e ≤ 2 * d + 1 := by omega
  obtain ⟨n0, hn0⟩ : ∃ n0 : Nat, n0 = d + mm := ⟨_, rfl⟩
  obtain ⟨n1, hn1⟩ : ∃ n1 : Nat, n0 = n1 + 1 := ⟨n0 - 1, by omega⟩
  obtain ⟨lo, hi, hlo1, hlo2, hlh, f1, f2, f3, f4, f5, f6⟩ : ∃ lo hi : Nat, (d < mm → (lo : Int) = (n0 : Int) - (e : Int) ∧ hi = d) ∧ (¬ d < mm → lo = p ∧ hi = mm) ∧ lo ≤ hi ∧ p ≤ lo ∧ hi ≤ mm ∧ hi ≤ d ∧ n0 ≤ e + lo ∧ (lo = p ∨ n0 = e + lo) ∧ (hi = mm ∨ hi = d) := by
    by_cases h : d < mm
    · exact ⟨n0 - e, d, fun _ => ⟨by omega, rfl⟩, fun h2 => absurd h h2, by omega, by omega, by omega, by omega, by omega, by omega, by omega⟩
    · exact ⟨p, mm, fun h2 => absurd h2 h, fun _ => ⟨rfl, rfl⟩, by omega, by omega, by omega, by omega, by omega, by omega, by omega⟩
  -- what the cut leads to
  have hcut : ∀ c0 : Nat, lo ≤ c0 → c0 ≤ hi → (lo < c0 → lt (A[c0 - 1 - p]?.getD 0) (B[n0 - c0 - mm]?.getD 0) = true) → (c0 < hi → lt (B[n1 - c0 - mm]?.getD 0) (A[c0 - p]?.getD 0) = true) →
      ∃ W1 W2 W3 : List Int, W3 = P ++ srt lt (A ++ B) ++ S ∧ W1.length = N ∧ W2.length = N ∧
        (¬ (c0 < mm ∧ mm < n0 - c0) → W1 = W) ∧ (¬ (p < c0 ∧ c0 < d) → W2 = W1) ∧ (¬ (d < n0 - c0 ∧ n0 - c0 < e) → W3 = W2) ∧
        ((c0 < mm ∧ mm < n0 - c0) → FnMem Tryz.prog 245 [.os 100000 N, .d (int c0), .d (int mm), .d (int ((n0 - c0 : Nat) : Int)), .d (.clo (.func g) caps)] [obI W] noV [obI W1]) ∧
        ((p < c0 ∧ c0 < d) → FnMem Tryz.prog 198 [.os 100000 N, .d (int p), .d (int c0), .d (int d), .d (.clo (.func g) caps)] [obI W1] noV [obI W2]) ∧
        ((d < n0 - c0 ∧ n0 - c0 < e) → FnMem Tryz.prog 198 [.os 100000 N, .d (int d), .d (int ((n0 - c0 : Nat) : Int)), .d (int e), .d (.clo (.func g) caps)] [obI W2] noV [obI W3]) := by
    intro c0 c1 c2 c3 c4
    obtain ⟨i, hi0⟩ : ∃ i, i = c0 - p := ⟨_, rfl⟩
    obtain ⟨j, hj0⟩ : ∃ j, j = d - c0 := ⟨_, rfl⟩
    have hiA : i ≤ A.length := by omega
    have hjB : j ≤ B.length := by omega
    have hcut := cut_two H.lts hM.left hM.right hiA hjB (hM.nodup H.lts) (fun h1 h2 => ?_) (fun h1 h2 => ?_)
    rotate_left
    · have := c3 (by omega)
      rwa [show c0 - 1 - p = i - 1 by omega, show n0 - c0 - mm = j by omega] at this
    · have := c4 (by omega)
      rwa [show n1 - c0 - mm = j - 1 by omega, show c0 - p = i by omega] at this
    have eA : A = A.take i ++ A.drop i := (List.take_append_drop i A).symm
    have eB : B = B.take j ++ B.drop j := (List.take_append_drop j B).symm
    have l1 : (A.take i).length = i := by rw [List.length_take]; omega
    have l2 : (A.drop i).length = A.length - i := List.length_drop
    have l3 : (B.take j).length = j := by rw [List.length_take]; omega
    have l4 : (B.drop j).length = B.length - j := List.length_drop
    have M1 := hM.sub (List.take_sublist i A) (List.take_sublist j B)
    have M2 := hM.sub (List.drop_sublist i A) (List.drop_sublist j B)
    generalize A.take i = A1 at *
    generalize A.drop i = A2 at *
    generalize B.take j = B1 at *
    generalize B.drop j = B2 at *
    have s1 : (srt lt (A1 ++ B1)).length = i + j := by rw [srt_length, List.length_append]; omega
    have hA0 : ∀ {l : List Int}, l.length = 0 → l = [] := fun h => List.eq_nil_of_length_eq_zero h
    refine ⟨P ++ A1 ++ B1 ++ A2 ++ B2 ++ S, P ++ srt lt (A1 ++ B1) ++ A2 ++ B2 ++ S, P ++ srt lt (A ++ B) ++ S, rfl, by simp; omega, by simp [s1]; omega, fun h => ?_, fun h => ?_, fun h => ?_, fun h => ?_, fun h => ?_, fun h => ?_⟩
    · rw [hW, eA, eB]
      have : A2 = [] ∨ B1 = [] := by
        by_cases h1 : c0 < mm
        · exact .inr (hA0 (by omega))
        · exact .inl (hA0 (by omega))
      rcases this with rfl | rfl <;> simp
    · have : A1 = [] ∨ B1 = [] := by
        by_cases h1 : p < c0
        · exact .inr (hA0 (by omega))
        · exact .inl (hA0 (by omega))
      have := half_sorted H.lts M1.left M1.right this
      rw [← this]
      simp
    · have : A2 = [] ∨ B2 = [] := by
        by_cases h1 : d < n0 - c0
        · exact .inr (hA0 (by omega))
        · exact .inl (hA0 (by omega))
      have := half_sorted H.lts M2.left M2.right this
      rw [← hcut, ← this]
      simp
    · refine fnMem_eq (rotate_ok (P ++ A1) A2 B1 (B2 ++ S) c0 mm ((n0 - c0 : Nat) : Int) (.clo (.func g) caps) (by simp; omega) (by simp; omega) (by simp; omega) (by omega) (by omega) (by simp; omega)) ?_ ?_ ?_
      · have : (P ++ A1 ++ A2 ++ B1 ++ (B2 ++ S)).length = N := by simp; omega
        rw [this]
      · rw [hW, eA, eB]; simp
      · simp
    · refine fnMem_eq (ih P A1 B1 (A2 ++ B2 ++ S) p c0 d (by omega) (by omega) (by omega) (by omega) (by omega) (by omega) M1 (by simp; omega)) ?_ ?_ ?_
      · have : (P ++ A1 ++ B1 ++ (A2 ++ B2 ++ S)).length = N := by simp; omega
        rw [this]
      · simp
      · simp
    · refine fnMem_eq (ih (P ++ srt lt (A1 ++ B1)) A2 B2 S d ((n0 - c0 : Nat) : Int) e (by omega) (by omega) (by omega) (by simp [s1]; omega) (by simp [s1]; omega) (by simp [s1]; omega) M2 (by simp [s1]; omega)) ?_ ?_ ?_
      · have : (P ++ srt lt (A1 ++ B1) ++ A2 ++ B2 ++ S).length = N := by simp [s1]; omega
        rw [this]
      · rfl
      · rw [← hcut]; simp
  have hC1 : ∀ c, lo ≤ c → c < hi → FnOk Tryz.prog g (int (W[n1 - c]?.getD 0) :: int (W[c]?.getD 0) :: caps) (int (cmp (B[n1 - c - mm]?.getD 0) (A[c - p]?.getD 0))) ∧
      (cmp (B[n1 - c - mm]?.getD 0) (A[c - p]?.getD 0) < 0 ↔ lt (B[n1 - c - mm]?.getD 0) (A[c - p]?.getD 0) = true) ∧ A[c - p]?.getD 0 ≠ B[n1 - c - mm]?.getD 0 := fun c k1 k2 => by
    have a1 : A[c - p]?.getD 0 ∈ A := mem_at (by omega)
    have b1 : B[n1 - c - mm]?.getD 0 ∈ B := mem_at (by omega)
    have ta := hM.kinds _ (List.mem_append.2 (.inl a1))
    have tb := hM.kinds _ (List.mem_append.2 (.inr b1))
    have hlt := hM.apart _ a1 _ b1
    rw [hxA c (by omega) (by omega), hxB (n1 - c) (by omega) (by omega)]
    exact ⟨H.fn _ _ tb ta, H.says _ _ tb ta hlt, by omega⟩
  rw [← hN, ← hW]
  rw [← hN] at hl
  have eA1 : (mm : Int) = (p : Int) + (A.length : Int) := by omega
  have eB1 : (e : Int) = (mm : Int) + (B.length : Int) := by omega
  have hmp : ¬ (mm : Int) - (p : Int) = 1 := by omega
  have hem : ¬ (e : Int) - (mm : Int) = 1 := by omega
  clear ih hA2 hxA hxB hM hn
  repeat' (first | (first | refine ewp_seq ?_ | refine run_region hc (by simp [hfd]; exact Ends.go) (by first | exact True.intro | omega | assumption | (simp; done) | (simp; omega) | (simp at *; omega)) ?_ | refine run_draw hc (by kernel_rfl) (by kernel_rfl) (by simp [hfd]; exact Ends.go) (by first | exact True.intro | omega | assumption | (simp; done) | (simp; omega) | (simp at *; omega)) ?_ | refine ewp_scope ?_ | refine scopeQ_normal ?_ | refine scopeQ_ret ?_ | refine scopeQ_exit ?_ | refine ewp_skip ?_ | refine ewp_block ?_ | refine ewp_exit ?_ | refine ewp_label ?_ | refine thenQ_normal ?_ | refine thenQ_ret ?_ | refine thenQ_exit ?_ | refine blockQ_normal ?_ | refine blockQ_ret ?_ | refine blockQ_here ?_ | refine blockQ_there (by decide) ?_ | refine ewp_ret ?_ | refine opsW_nil ?_ | refine quietW_nil ?_ | (refine run_cond (by simp [hfd]; exact Gives.mk) (fun hb => ?_) (fun hb => ?_) <;> (try simp at hb)) | fail) | (first | refine run_callW hc (by simp [hfd]; exact Gives.mk) (by simp [hfd]; exact Gives.mk) (by simp [hfd]; exact Gives.mk) (by simp [hfd]; exact Gives.mk) (by simp [hfd]; exact Gives.mk) (fun _ => by first | exact trivial) (by simp) (by simp) ?_ | refine run_callQ hc (by simp [hfd]; exact Gives.mk) (by simp [hfd]; exact Gives.mk) (by simp [hfd]; exact Gives.mk) (by simp [hfd]; exact Gives.mk) (by simp [hfd]; exact Gives.mk) (fun _ => by first | exact trivial) (by simp) (by simp) ?_ | refine run_ops hc (by simp [hfd]; first | exact Ends.go | exact Ends.halt) (by decide) (by first | exact True.intro | omega | assumption | (simp; done) | (simp; omega) | (simp at *; omega)) ?_ | refine run_quiet hc (by simp [hfd]; first | exact Ends.go | exact Ends.halt) (by decide) (by first | exact True.intro | omega | assumption | (simp; done) | (simp; omega) | (simp at *; omega)) ?_ | refine run_regionW hc (by simp [hfd]; exact Ends.halt) (by first | exact True.intro | omega | assumption | (simp; done) | (simp; omega) | (simp at *; omega)) ?_ | fail))
  all_goals try contradiction
  all_goals try (exfalso; omega)
  · refine ewp_loop (fun u : Nat × Nat => ⟨[(0, .os 100000 N), (1, .d (int p)), (2, .d (int mm)), (3, .d (int e)), (4, .d (.clo (.func g) caps)), (18, .d (int d)), (19, .d (int n0)), (20, .d (int u.1)), (21, .d (int u.2)), (22, .d (int n1))], [obI W]⟩)
      (fun u => lo ≤ u.1 ∧ u.1 ≤ u.2 ∧ u.2 ≤ hi ∧ (lo < u.1 → lt (A[u.1 - 1 - p]?.getD 0) (B[n0 - u.1 - mm]?.getD 0) = true) ∧ (u.2 < hi → lt (B[n1 - u.2 - mm]?.getD 0) (A[u.2 - p]?.getD 0) = true)) (fun u => u.2 - u.1) (lo, hi)
      ⟨Nat.le_refl _, hlh, Nat.le_refl _, fun h => absurd h (Nat.lt_irrefl _), fun h => absurd h (Nat.lt_irrefl _)⟩ (run_back [0, 1, 2, 3, 4, 18, 19, 20, 21, 22] [100000] (by simp; exact Gives.mk) (by simp; exact Gives.mk) (by simp; omega)) ?_
    rintro ⟨i, j⟩ ⟨k1, k2, k3, k4, k5⟩
    simp only at k1 k2 k3 k4 k5 ⊢
    by_cases hij : i < j
    · obtain ⟨h, hh, hh1, hh2⟩ : ∃ h : Nat, (i + j) / 2 = h ∧ i ≤ h ∧ h < j := ⟨_, rfl, by omega, by omega⟩
      have hfd2 := half_ofs hh
      obtain ⟨hC, hs, hne⟩ := hC1 h (by omega) (by omega)
      obtain ⟨v, hv⟩ : ∃ v : Nat, v = n1 - h := ⟨_, rfl⟩
      have hvi : (n1 : Int) - (h : Int) = (v : Int) := by omega
      rw [← hv] at hC hs hne
      generalize cmp (B[v - mm]?.getD 0) (A[h - p]?.getD 0) = z at hC hs
      clear hcut hC1 hfd
      repeat' (first | (first | refine ewp_seq ?_ | refine run_region hc (by simp [hfd2, hvi]; exact Ends.go) (by first | exact True.intro | omega | assumption | (simp; done) | (simp; omega) | (simp at *; omega)) ?_ | refine run_draw hc (by kernel_rfl) (by kernel_rfl) (by simp [hfd2, hvi]; exact Ends.go) (by first | exact True.intro | omega | assumption | (simp; done) | (simp; omega) | (simp at *; omega)) ?_ | refine ewp_scope ?_ | refine scopeQ_normal ?_ | refine scopeQ_ret ?_ | refine scopeQ_exit ?_ | refine ewp_skip ?_ | refine ewp_block ?_ | refine ewp_exit ?_ | refine ewp_label ?_ | refine thenQ_normal ?_ | refine thenQ_ret ?_ | refine thenQ_exit ?_ | refine blockQ_normal ?_ | refine blockQ_ret ?_ | refine blockQ_here ?_ | refine blockQ_there (by decide) ?_ | refine ewp_ret ?_ | refine opsW_nil ?_ | refine quietW_nil ?_ | (refine run_cond (by simp [hfd2, hvi]; exact Gives.mk) (fun hb => ?_) (fun hb => ?_) <;> (try simp at hb)) | fail) | (first | refine run_callW hc (by simp [hfd2, hvi]; exact Gives.mk) (by simp [hfd2, hvi]; exact Gives.mk) (by simp [hfd2, hvi]; exact Gives.mk) (by simp [hfd2, hvi]; exact Gives.mk) (by simp [hfd2, hvi]; exact Gives.mk) (fun _ => by first | exact hC) (by simp) (by simp) ?_ | refine run_callQ hc (by simp [hfd2, hvi]; exact Gives.mk) (by simp [hfd2, hvi]; exact Gives.mk) (by simp [hfd2, hvi]; exact Gives.mk) (by simp [hfd2, hvi]; exact Gives.mk) (by simp [hfd2, hvi]; exact Gives.mk) (fun _ => by first | exact hC) (by simp) (by simp) ?_ | refine run_ops hc (by simp [hfd2, hvi]; first | exact Ends.go | exact Ends.halt) (by decide) (by first | exact True.intro | omega | assumption | (simp; done) | (simp; omega) | (simp at *; omega)) ?_ | refine run_quiet hc (by simp [hfd2, hvi]; first | exact Ends.go | exact Ends.halt) (by decide) (by first | exact True.intro | omega | assumption | (simp; done) | (simp; omega) | (simp at *; omega)) ?_ | refine run_regionW hc (by simp [hfd2, hvi]; exact Ends.halt) (by first | exact True.intro | omega | assumption | (simp; done) | (simp; omega) | (simp at *; omega)) ?_ | refine run_drawN hc (by kernel_rfl) (by decide) (by kernel_rfl) (by simp [hfd2, hvi]; exact Ends.halt) (by first | exact True.intro | omega | assumption | (simp; done) | (simp; omega) | (simp at *; omega)) ?_ | fail))
      all_goals try contradiction
      all_goals try (exfalso; omega)
      · refine ⟨(h + 1, j), ⟨by simp only; omega, by simp only; omega, by simp only; omega, fun _ => ?_, k5⟩, by simp only; omega, run_back [0, 1, 2, 3, 4, 18, 19, 20, 21, 22] [100000] (by simp; exact Gives.mk) (by simp; exact Gives.mk) (by simp)⟩
        simp only
        rw [show h + 1 - 1 - p = h - p by omega, show n0 - (h + 1) - mm = v - mm by omega]
        exact (H.lts.tot _ _ hne).resolve_right fun h => by have := hs.2 h; omega
      · refine ⟨(i, h), ⟨k1, by simp only; omega, by simp only; omega, k4, fun _ => ?_⟩, by simp only; omega, run_back [0, 1, 2, 3, 4, 18, 19, 20, 21, 22] [100000] (by simp; exact Gives.mk) (by simp; exact Gives.mk) (by simp)⟩
        simp only
        rw [← hv]
        exact hs.1 hb
    obtain rfl : i = j := by omega
    obtain ⟨W1, W2, W3, w3, wl1, wl2, n1', n2', n3', r1, r2, r3⟩ := hcut i k1 k3 k4 k5
    obtain ⟨en, hen⟩ : ∃ en : Nat, en = n0 - i := ⟨_, rfl⟩
    have heni : (n0 : Int) - (i : Int) = (en : Int) := by omega
    rw [← hen] at n1' n3' r1 r3
    rw [← w3]
    clear hcut hC1 hfd k4 k5 w3
    by_cases q1 : i < mm ∧ mm < en
    all_goals by_cases q2 : p < i ∧ i < d
    all_goals by_cases q3 : d < en ∧ en < e
    all_goals (try (have e1 := n1' q1; subst e1)); (try (have e2 := n2' q2; subst e2)); (try (have e3 := n3' q3; subst e3))
    all_goals (clear n1' n2' n3')
    all_goals repeat' (first | (first | refine ewp_seq ?_ | refine run_region hc (by simp [heni]; exact Ends.go) (by first | exact True.intro | omega | assumption | (simp; done) | (simp; omega) | (simp at *; omega)) ?_ | refine run_draw hc (by kernel_rfl) (by kernel_rfl) (by simp [heni]; exact Ends.go) (by first | exact True.intro | omega | assumption | (simp; done) | (simp; omega) | (simp at *; omega)) ?_ | refine ewp_scope ?_ | refine scopeQ_normal ?_ | refine scopeQ_ret ?_ | refine scopeQ_exit ?_ | refine ewp_skip ?_ | refine ewp_block ?_ | refine ewp_exit ?_ | refine ewp_label ?_ | refine thenQ_normal ?_ | refine thenQ_ret ?_ | refine thenQ_exit ?_ | refine blockQ_normal ?_ | refine blockQ_ret ?_ | refine blockQ_here ?_ | refine blockQ_there (by decide) ?_ | refine ewp_ret ?_ | refine opsW_nil ?_ | refine quietW_nil ?_ | (refine run_cond (by simp [heni]; exact Gives.mk) (fun hb => ?_) (fun hb => ?_) <;> (try simp at hb)) | fail) | ((first | refine run_callM ([(100000, 100000)]) ((r1 q1)) hc (by simp [heni]; exact Gives.mk) (by simp [heni]; exact Gives.mk) (by simp [heni]; exact Gives.mk) (by simp [heni]; exact Gives.mk) (by simp [heni]; exact Gives.mk) rfl (by simp [heni]; exact Gives.mk) (by simp [heni]; exact Gives.mk) rfl (by simp) (by simp) (by simp [heni]; exact Gives.mk) (by simp [heni]; exact Gives.mk) ?_ | fail)) | ((first | refine run_callM ([(100000, 100000)]) ((r2 q2)) hc (by simp [heni]; exact Gives.mk) (by simp [heni]; exact Gives.mk) (by simp [heni]; exact Gives.mk) (by simp [heni]; exact Gives.mk) (by simp [heni]; exact Gives.mk) rfl (by simp [heni]; exact Gives.mk) (by simp [heni]; exact Gives.mk) rfl (by simp) (by simp) (by simp [heni]; exact Gives.mk) (by simp [heni]; exact Gives.mk) ?_ | fail)) | ((first | refine run_callM ([(100000, 100000)]) ((r3 q3)) hc (by simp [heni]; exact Gives.mk) (by simp [heni]; exact Gives.mk) (by simp [heni]; exact Gives.mk) (by simp [heni]; exact Gives.mk) (by simp [heni]; exact Gives.mk) rfl (by simp [heni]; exact Gives.mk) (by simp [heni]; exact Gives.mk) rfl (by simp) (by simp) (by simp [heni]; exact Gives.mk) (by simp [heni]; exact Gives.mk) ?_ | fail)) | (first | refine run_callW hc (by simp [heni]; exact Gives.mk) (by simp [heni]; exact Gives.mk) (by simp [heni]; exact Gives.mk) (by simp [heni]; exact Gives.mk) (by simp [heni]; exact Gives.mk) (fun _ => by first | exact trivial) (by simp) (by simp) ?_ | refine run_callQ hc (by simp [heni]; exact Gives.mk) (by simp [heni]; exact Gives.mk) (by simp [heni]; exact Gives.mk) (by simp [heni]; exact Gives.mk) (by simp [heni]; exact Gives.mk) (fun _ => by first | exact trivial) (by simp) (by simp) ?_ | refine run_ops hc (by simp [heni]; first | exact Ends.go | exact Ends.halt) (by decide) (by first | exact True.intro | omega | assumption | (simp; done) | (simp; omega) | (simp at *; omega)) ?_ | refine run_quiet hc (by simp [heni]; first | exact Ends.go | exact Ends.halt) (by decide) (by first | exact True.intro | omega | assumption | (simp; done) | (simp; omega) | (simp at *; omega)) ?_ | refine run_regionW hc (by simp [heni]; exact Ends.halt) (by first | exact True.intro | omega | assumption | (simp; done) | (simp; omega) | (simp at *; omega)) ?_ | fail))
    all_goals try contradiction
    all_goals try (exfalso; omega)
    all_goals (refine run_leaveM [100000] hc (le_end rfl) (by simp; exact Gives.mk) (by simp; exact Gives.mk) (by first | (simp; done) | (simp; omega)) ?_)
    all_goals simp
  · refine ewp_loop (fun u : Nat × Nat => ⟨[(0, .os 100000 N), (1, .d (int p)), (2, .d (int mm)), (3, .d (int e)), (4, .d (.clo (.func g) caps)), (18, .d (int d)), (19, .d (int n0)), (20, .d (int u.1)), (21, .d (int u.2)), (22, .d (int n1))], [obI W]⟩)
      (fun u => lo ≤ u.1 ∧ u.1 ≤ u.2 ∧ u.2 ≤ hi ∧ (lo < u.1 → lt (A[u.1 - 1 - p]?.getD 0) (B[n0 - u.1 - mm]?.getD 0) = true) ∧ (u.2 < hi → lt (B[n1 - u.2 - mm]?.getD 0) (A[u.2 - p]?.getD 0) = true)) (fun u => u.2 - u.1) (lo, hi)
      ⟨Nat.le_refl _, hlh, Nat.le_refl _, fun h => absurd h (Nat.lt_irrefl _), fun h => absurd h (Nat.lt_irrefl _)⟩ (run_back [0, 1, 2, 3, 4, 18, 19, 20, 21, 22] [100000] (by simp; exact Gives.mk) (by simp; exact Gives.mk) (by simp; omega)) ?_
    rintro ⟨i, j⟩ ⟨k1, k2, k3, k4, k5⟩
    simp only at k1 k2 k3 k4 k5 ⊢
    by_cases hij : i < j
    · obtain ⟨h, hh, hh1, hh2⟩ : ∃ h : Nat, (i + j) / 2 = h ∧ i ≤ h ∧ h < j := ⟨_, rfl, by omega, by omega⟩
      have hfd2 := half_ofs hh
      obtain ⟨hC, hs, hne⟩ := hC1 h (by omega) (by omega)
      obtain ⟨v, hv⟩ : ∃ v : Nat, v = n1 - h := ⟨_, rfl⟩
      have hvi : (n1 : Int) - (h : Int) = (v : Int) := by omega
      rw [← hv] at hC hs hne
      generalize cmp (B[v - mm]?.getD 0) (A[h - p]?.getD 0) = z at hC hs
      clear hcut hC1 hfd
      repeat' (first | (first | refine ewp_seq ?_ | refine run_region hc (by simp [hfd2, hvi]; exact Ends.go) (by first | exact True.intro | omega | assumption | (simp; done) | (simp; omega) | (simp at *; omega)) ?_ | refine run_draw hc (by kernel_rfl) (by kernel_rfl) (by simp [hfd2, hvi]; exact Ends.go) (by first | exact True.intro | omega | assumption | (simp; done) | (simp; omega) | (simp at *; omega)) ?_ | refine ewp_scope ?_ | refine scopeQ_normal ?_ | refine scopeQ_ret ?_ | refine scopeQ_exit ?_ | refine ewp_skip ?_ | refine ewp_block ?_ | refine ewp_exit ?_ | refine ewp_label ?_ | refine thenQ_normal ?_ | refine thenQ_ret ?_ | refine thenQ_exit ?_ | refine blockQ_normal ?_ | refine blockQ_ret ?_ | refine blockQ_here ?_ | refine blockQ_there (by decide) ?_ | refine ewp_ret ?_ | refine opsW_nil ?_ | refine quietW_nil ?_ | (refine run_cond (by simp [hfd2, hvi]; exact Gives.mk) (fun hb => ?_) (fun hb => ?_) <;> (try simp at hb)) | fail) | (first | refine run_callW hc (by simp [hfd2, hvi]; exact Gives.mk) (by simp [hfd2, hvi]; exact Gives.mk) (by simp [hfd2, hvi]; exact Gives.mk) (by simp [hfd2, hvi]; exact Gives.mk) (by simp [hfd2, hvi]; exact Gives.mk) (fun _ => by first | exact hC) (by simp) (by simp) ?_ | refine run_callQ hc (by simp [hfd2, hvi]; exact Gives.mk) (by simp [hfd2, hvi]; exact Gives.mk) (by simp [hfd2, hvi]; exact Gives.mk) (by simp [hfd2, hvi]; exact Gives.mk) (by simp [hfd2, hvi]; exact Gives.mk) (fun _ => by first | exact hC) (by simp) (by simp) ?_ | refine run_ops hc (by simp [hfd2, hvi]; first | exact Ends.go | exact Ends.halt) (by decide) (by first | exact True.intro | omega | assumption | (simp; done) | (simp; omega) | (simp at *; omega)) ?_ | refine run_quiet hc (by simp [hfd2, hvi]; first | exact Ends.go | exact Ends.halt) (by decide) (by first | exact True.intro | omega | assumption | (simp; done) | (simp; omega) | (simp at *; omega)) ?_ | refine run_regionW hc (by simp [hfd2, hvi]; exact Ends.halt) (by first | exact True.intro | omega | assumption | (simp; done) | (simp; omega) | (simp at *; omega)) ?_ | refine run_drawN hc (by kernel_rfl) (by decide) (by kernel_rfl) (by simp [hfd2, hvi]; exact Ends.halt) (by first | exact True.intro | omega | assumption | (simp; done) | (simp; omega) | (simp at *; omega)) ?_ | fail))
      all_goals try contradiction
      all_goals try (exfalso; omega)
      · refine ⟨(h + 1, j), ⟨by simp only; omega, by simp only; omega, by simp only; omega, fun _ => ?_, k5⟩, by simp only; omega, run_back [0, 1, 2, 3, 4, 18, 19, 20, 21, 22] [100000] (by simp; exact Gives.mk) (by simp; exact Gives.mk) (by simp)⟩
        simp only
        rw [show h + 1 - 1 - p = h - p by omega, show n0 - (h + 1) - mm = v - mm by omega]
        exact (H.lts.tot _ _ hne).resolve_right fun h => by have := hs.2 h; omega
      · refine ⟨(i, h), ⟨k1, by simp only; omega, by simp only; omega, k4, fun _ => ?_⟩, by simp only; omega, run_back [0, 1, 2, 3, 4, 18, 19, 20, 21, 22] [100000] (by simp; exact Gives.mk) (by simp; exact Gives.mk) (by simp)⟩
        simp only
        rw [← hv]
        exact hs.1 hb
    obtain rfl : i = j := by omega
    obtain ⟨W1, W2, W3, w3, wl1, wl2, n1', n2', n3', r1, r2, r3⟩ := hcut i k1 k3 k4 k5
    obtain ⟨en, hen⟩ : ∃ en : Nat, en = n0 - i := ⟨_, rfl⟩
    have heni : (n0 : Int) - (i : Int) = (en : Int) := by omega
    rw [← hen] at n1' n3' r1 r3
    rw [← w3]
    clear hcut hC1 hfd k4 k5 w3
    by_cases q1 : i < mm ∧ mm < en
    all_goals by_cases q2 : p < i ∧ i < d
    all_goals by_cases q3 : d < en ∧ en < e
    all_goals (try (have e1 := n1' q1; subst e1)); (try (have e2 := n2' q2; subst e2)); (try (have e3 := n3' q3; subst e3))
    all_goals (clear n1' n2' n3')
    all_goals repeat' (first | (first | refine ewp_seq ?_ | refine run_region hc (by simp [heni]; exact Ends.go) (by first | exact True.intro | omega | assumption | (simp; done) | (simp; omega) | (simp at *; omega)) ?_ | refine run_draw hc (by kernel_rfl) (by kernel_rfl) (by simp [heni]; exact Ends.go) (by first | exact True.intro | omega | assumption | (simp; done) | (simp; omega) | (simp at *; omega)) ?_ | refine ewp_scope ?_ | refine scopeQ_normal ?_ | refine scopeQ_ret ?_ | refine scopeQ_exit ?_ | refine ewp_skip ?_ | refine ewp_block ?_ | refine ewp_exit ?_ | refine ewp_label ?_ | refine thenQ_normal ?_ | refine thenQ_ret ?_ | refine thenQ_exit ?_ | refine blockQ_normal ?_ | refine blockQ_ret ?_ | refine blockQ_here ?_ | refine blockQ_there (by decide) ?_ | refine ewp_ret ?_ | refine opsW_nil ?_ | refine quietW_nil ?_ | (refine run_cond (by simp [heni]; exact Gives.mk) (fun hb => ?_) (fun hb => ?_) <;> (try simp at hb)) | fail) | ((first | refine run_callM ([(100000, 100000)]) ((r1 q1)) hc (by simp [heni]; exact Gives.mk) (by simp [heni]; exact Gives.mk) (by simp [heni]; exact Gives.mk) (by simp [heni]; exact Gives.mk) (by simp [heni]; exact Gives.mk) rfl (by simp [heni]; exact Gives.mk) (by simp [heni]; exact Gives.mk) rfl (by simp) (by simp) (by simp [heni]; exact Gives.mk) (by simp [heni]; exact Gives.mk) ?_ | fail)) | ((first | refine run_callM ([(100000, 100000)]) ((r2 q2)) hc (by simp [heni]; exact Gives.mk) (by simp [heni]; exact Gives.mk) (by simp [heni]; exact Gives.mk) (by simp [heni]; exact Gives.mk) (by simp [heni]; exact Gives.mk) rfl (by simp [heni]; exact Gives.mk) (by simp [heni]; exact Gives.mk) rfl (by simp) (by simp) (by simp [heni]; exact Gives.mk) (by simp [heni]; exact Gives.mk) ?_ | fail)) | ((first | refine run_callM ([(100000, 100000)]) ((r3 q3)) hc (by simp [heni]; exact Gives.mk) (by simp [heni]; exact Gives.mk) (by simp [heni]; exact Gives.mk) (by simp [heni]; exact Gives.mk) (by simp [heni]; exact Gives.mk) rfl (by simp [heni]; exact Gives.mk) (by simp [heni]; exact Gives.mk) rfl (by simp) (by simp) (by simp [heni]; exact Gives.mk) (by simp [heni]; exact Gives.mk) ?_ | fail)) | (first | refine run_callW hc (by simp [heni]; exact Gives.mk) (by simp [heni]; exact Gives.mk) (by simp [heni]; exact Gives.mk) (by simp [heni]; exact Gives.mk) (by simp [heni]; exact Gives.mk) (fun _ => by first | exact trivial) (by simp) (by simp) ?_ | refine run_callQ hc (by simp [heni]; exact Gives.mk) (by simp [heni]; exact Gives.mk) (by simp [heni]; exact Gives.mk) (by simp [heni]; exact Gives.mk) (by simp [heni]; exact Gives.mk) (fun _ => by first | exact trivial) (by simp) (by simp) ?_ | refine run_ops hc (by simp [heni]; first | exact Ends.go | exact Ends.halt) (by decide) (by first | exact True.intro | omega | assumption | (simp; done) | (simp; omega) | (simp at *; omega)) ?_ | refine run_quiet hc (by simp [heni]; first | exact Ends.go | exact Ends.halt) (by decide) (by first | exact True.intro | omega | assumption | (simp; done) | (simp; omega) | (simp at *; omega)) ?_ | refine run_regionW hc (by simp [heni]; exact Ends.halt) (by first | exact True.intro | omega | assumption | (simp; done) | (simp; omega) | (simp at *; omega)) ?_ | fail))
    all_goals try contradiction
    all_goals try (exfalso; omega)
    all_goals (refine run_leaveM [100000] hc (le_end rfl) (by simp; exact Gives.mk) (by simp; exact Gives.mk) (by first | (simp; done) | (simp; omega)) ?_)
    all_goals simp
theorem symM_ok {g : FuncId} {caps : List D} {T : Int → Prop} {lt : Int → Int → Bool} {cmp : Int → Int → Int} (H : CmpOk g caps T lt cmp) (n : Nat) :
    ∀ (P A B S : List Int) (a m b : Int), A.length + B.length ≤ n → 0 < A.length → 0 < B.length → a = P.length → m = P.length + A.length → b = P.length + A.length + B.length → MergeOk T lt A B → (P ++ A ++ B ++ S).length ≤ 300 → SymOk g caps P A B S lt a m b := by
  induction n with
  | zero => intro P A B S a m b h h1 _; omega
  | succ n ih =>
    intro P A B S a m b h h1 h2 ha hm hb hM hl
    by_cases hA1 : A.length = 1
    · obtain ⟨x, rfl⟩ := List.length_eq_one_iff.1 hA1
      exact symOne_ok H P x B S a m b ha (by simpa using hm) (by simpa using hb) hM hl
    · by_cases hB1 : B.length = 1
      · obtain ⟨y, rfl⟩ := List.length_eq_one_iff.1 hB1
        exact symLast_ok H P A y S a m b ha hm (by simpa using hb) hM hA1 hl
      · exact symGen_ok H n ih P A B S a m b h (by omega) (by omega) ha hm hb hM hl
end Go.Proofs.YtnainpghpjelcaaGreatDoor
/-
  SORTING: slices.SortStableFunc at numbers. (WITH run_drawN.)
-/
set_option linter.unusedSimpArgs false
set_option linter.unusedVariables false
namespace Go.Proofs.YtnainpghpjelcaaGreatDoor
open Go.Lw Go.RowKit
set_option maxRecDepth 100000
set_option maxHeartbeats 8000000

theorem merge_of {T : Int → Prop} {lt : Int → Int → Bool} (hl : Lts lt) {D1 D2 : List Int} (h : (D1 ++ D2).Pairwise (· < ·)) (hT : ∀ x ∈ D1 ++ D2, T x) : MergeOk T lt (srt lt D1) (srt lt D2) := by
  obtain ⟨a1, a2, a3⟩ := List.pairwise_append.1 h
  have nd : ∀ {l : List Int}, l.Pairwise (· < ·) → l.Nodup := fun h => h.imp fun h e => by omega
  refine ⟨fun x hx => hT x ?_, srt_srt hl (nd a1), srt_srt hl (nd a2), fun x hx y hy => a3 x (srt_mem.1 hx) y (srt_mem.1 hy)⟩
  rcases List.mem_append.1 hx with hx | hx
  · exact List.mem_append.2 (.inl (srt_mem.1 hx))
  · exact List.mem_append.2 (.inr (srt_mem.1 hx))
/-- Blocks under way: from where, to where, what is done. -/
structure Blk where
  a : Nat
  b : Nat
  pre : List Int
theorem stable_ok {g : FuncId} {caps : List D} {T : Int → Prop} {lt : Int → Int → Bool} {cmp : Int → Int → Int} (H : CmpOk g caps T lt cmp) (d : List Int) (hT : ∀ x ∈ d, T x) (hinc : d.Pairwise (· < ·)) (hl : d.length ≤ 300) :
    FnMem Tryz.prog 150 [.os 100000 d.length, .d (int d.length), .d (.clo (.func g) caps)] [obI d] noV [obI (srt lt d)] := by
  refine fnMem Tryz.func150 rfl (by kernel_rfl) Tryz.ntmps150 _ rfl (by simp) fun C hc => ?_
  have hnd : d.Nodup := hinc.imp fun h e => by omega
  have hsub : ∀ a, (d.drop a).Pairwise (· < ·) := fun a => hinc.sublist (List.drop_sublist a d)
  have hTd : ∀ a, ∀ x ∈ d.drop a, T x := fun a x hx => hT x (List.mem_of_mem_drop hx)
  obtain ⟨N, hN⟩ : ∃ N, N = d.length := ⟨_, rfl⟩
  rw [← hN] at hl ⊢
  repeat' (first | (first | refine Ya ?_ | refine Yb ?_ | refine Yc ?_ | refine Yd ?_ | refine Ye ?_ | refine Yf ?_ | refine Yg ?_ | refine Yh ?_ | refine Yi ?_ | refine Yj ?_ | refine Yk ?_ | refine Yl ?_ | refine Ym ?_ | refine Yn ?_ | refine Yo ?_ | refine Yp (h := ?_) | refine Yq ?_ | refine Yr ?_ | refine Ys ?_ | refine Zr hc (hk := ?_) | refine Zd hc (hk := ?_) | (refine Zc (ht := fun hb => ?_) (hf := fun hb => ?_) <;> (try simp at hb)) | fail) | (first | refine Zo hc (hk := ?_) | refine Zu hc (hk := ?_) | refine Ze hc (hk := ?_) | fail))
  refine ewp_loop (fun x : Blk => ⟨[(0, .os 100000 N), (1, .d (int N)), (2, .d (.clo (.func g) caps)), (6, .d (int 20)), (7, .d (int x.a)), (8, .d (int x.b))], [obI (x.pre ++ d.drop x.a)]⟩)
    (fun x => x.b = x.a + 20 ∧ x.a ≤ N ∧ x.pre.length = x.a ∧ x.pre ++ blk lt 20 (d.drop x.a) = blk lt 20 d) (fun x => N - x.a) ⟨0, 20, []⟩ ⟨rfl, Nat.zero_le _, rfl, by simp⟩ (run_back [0, 1, 2, 6, 7, 8] [100000] (by simp; exact Gives.mk) (by simp; exact Gives.mk) (by simp)) ?_
  rintro ⟨a, b, pre⟩ ⟨h1, h2, h3, h4⟩
  simp only at h1 h2 h3 h4 ⊢
  have hdl : (d.drop a).length = N - a := by rw [List.length_drop, hN]
  by_cases hbn : b ≤ N
  · -- one block more
    have hI := insSort_ok H pre ((d.drop a).take 20) (d.drop b) (a : Int) (b : Int) (by omega) (by simp; omega) (fun x hx => hTd a x (List.mem_of_mem_take hx)) ((hsub a).sublist (List.take_sublist _ _)) (by simp; omega)
    have e1 : pre ++ (d.drop a).take 20 ++ d.drop b = pre ++ d.drop a := by
      rw [List.append_assoc, show d.drop b = (d.drop a).drop 20 by rw [List.drop_drop, h1], List.take_append_drop]
    have e2 : (pre ++ d.drop a).length = N := by simp; omega
    rw [e1, e2] at hI
    have e3 : pre ++ srt lt ((d.drop a).take 20) ++ blk lt 20 (d.drop b) = blk lt 20 d := by
      rw [← h4, blk_more (show 0 < 20 by decide) (show 20 ≤ (d.drop a).length by omega), List.drop_drop, ← h1, List.append_assoc]
    have e4 : (pre ++ srt lt ((d.drop a).take 20)).length = b := by rw [List.length_append, srt_length, List.length_take]; omega
    generalize pre ++ srt lt ((d.drop a).take 20) = pre2 at *
    obtain ⟨W, hW⟩ : ∃ W, W = pre ++ d.drop a := ⟨_, rfl⟩
    obtain ⟨W2, hW2⟩ : ∃ W2, W2 = pre2 ++ d.drop b := ⟨_, rfl⟩
    rw [← hW] at hI ⊢
    rw [← hW2] at hI
    repeat' (first | (first | refine Ya ?_ | refine Yb ?_ | refine Yc ?_ | refine Yd ?_ | refine Ye ?_ | refine Yf ?_ | refine Yg ?_ | refine Yh ?_ | refine Yi ?_ | refine Yj ?_ | refine Yk ?_ | refine Yl ?_ | refine Ym ?_ | refine Yn ?_ | refine Yo ?_ | refine Yp (h := ?_) | refine Yq ?_ | refine Yr ?_ | refine Ys ?_ | refine Zr hc (hk := ?_) | refine Zd hc (hk := ?_) | (refine Zc (ht := fun hb => ?_) (hf := fun hb => ?_) <;> (try simp at hb)) | fail) | ((first | refine run_callM ([(100000, 100000)]) (hI) hc (by simp; exact Gives.mk) (by simp; exact Gives.mk) (by simp; exact Gives.mk) (by simp; exact Gives.mk) (by simp; exact Gives.mk) rfl (by simp; exact Gives.mk) (by simp; exact Gives.mk) rfl (by simp) (by simp) (by simp; exact Gives.mk) (by simp; exact Gives.mk) ?_ | fail)) | (first | refine Zo hc (hk := ?_) | refine Zu hc (hk := ?_) | refine Ze hc (hk := ?_) | fail))
    all_goals try contradiction
    all_goals try (exfalso; omega)
    refine ⟨⟨b, b + 20, pre2⟩, ⟨rfl, by simp only; omega, e4, e3⟩, by simp only; omega, run_back [0, 1, 2, 6, 7, 8] [100000] (by simp; exact Gives.mk) (by simp; exact Gives.mk) ?_⟩
    simp only [← hW2]
    simp
  have hI := insSort_ok H pre (d.drop a) [] (a : Int) (N : Int) (by omega) (by omega) (hTd a) (hsub a) (by simp; omega)
  have e1 : pre ++ d.drop a ++ [] = pre ++ d.drop a := List.append_nil _
  have e2 : (pre ++ d.drop a).length = N := by simp; omega
  have e3 : pre ++ srt lt (d.drop a) ++ [] = blk lt 20 d := by rw [List.append_nil, ← h4, blk_one (by decide) (by omega)]
  rw [e1, e2, e3] at hI
  obtain ⟨W, hW⟩ : ∃ W, W = pre ++ d.drop a := ⟨_, rfl⟩
  obtain ⟨W2, hW2⟩ : ∃ W2, W2 = blk lt 20 d := ⟨_, rfl⟩
  rw [← hW] at hI ⊢
  rw [← hW2] at hI
  repeat' (first | (first | refine Ya ?_ | refine Yb ?_ | refine Yc ?_ | refine Yd ?_ | refine Ye ?_ | refine Yf ?_ | refine Yg ?_ | refine Yh ?_ | refine Yi ?_ | refine Yj ?_ | refine Yk ?_ | refine Yl ?_ | refine Ym ?_ | refine Yn ?_ | refine Yo ?_ | refine Yp (h := ?_) | refine Yq ?_ | refine Yr ?_ | refine Ys ?_ | refine Zr hc (hk := ?_) | refine Zd hc (hk := ?_) | (refine Zc (ht := fun hb => ?_) (hf := fun hb => ?_) <;> (try simp at hb)) | fail) | ((first | refine run_callM ([(100000, 100000)]) (hI) hc (by simp; exact Gives.mk) (by simp; exact Gives.mk) (by simp; exact Gives.mk) (by simp; exact Gives.mk) (by simp; exact Gives.mk) rfl (by simp; exact Gives.mk) (by simp; exact Gives.mk) rfl (by simp) (by simp) (by simp; exact Gives.mk) (by simp; exact Gives.mk) ?_ | fail)) | (first | refine Zo hc (hk := ?_) | refine Zu hc (hk := ?_) | refine Ze hc (hk := ?_) | fail))
  all_goals try contradiction
  all_goals try (exfalso; omega)
  clear hI hW h1 h2 h3 h4 hdl e1 e2 e3 hbn
  refine ewp_loop (fun bs : Nat => ⟨[(0, .os 100000 N), (1, .d (int N)), (2, .d (.clo (.func g) caps)), (6, .d (int bs))], [obI (blk lt bs d)]⟩)
    (fun bs => 20 ≤ bs ∧ bs ≤ 600) (fun bs => N - bs) 20 ⟨by decide, by decide⟩ (run_back [0, 1, 2, 6] [100000] (by simp; exact Gives.mk) (by simp; exact Gives.mk) (by simp [hW2])) ?_
  rintro bs ⟨hb1, hb2⟩
  by_cases hbN : bs < N
  rotate_left
  · have e := blk_one (lt := lt) (show 0 < bs by omega) (show d.length ≤ bs by omega)
    rw [e]
    generalize srt lt d = R
    repeat' (first | (first | refine Ya ?_ | refine Yb ?_ | refine Yc ?_ | refine Yd ?_ | refine Ye ?_ | refine Yf ?_ | refine Yg ?_ | refine Yh ?_ | refine Yi ?_ | refine Yj ?_ | refine Yk ?_ | refine Yl ?_ | refine Ym ?_ | refine Yn ?_ | refine Yo ?_ | refine Yp (h := ?_) | refine Yq ?_ | refine Yr ?_ | refine Ys ?_ | refine Zr hc (hk := ?_) | refine Zd hc (hk := ?_) | (refine Zc (ht := fun hb => ?_) (hf := fun hb => ?_) <;> (try simp at hb)) | fail) | (first | refine Zo hc (hk := ?_) | refine Zu hc (hk := ?_) | refine Ze hc (hk := ?_) | fail))
    all_goals try contradiction
    all_goals try (exfalso; omega)
    (refine run_leaveM [100000] hc (le_end rfl) (by simp; exact Gives.mk) (by simp; exact Gives.mk) (by first | (simp; done) | (simp; omega)) ?_)
    simp
  obtain ⟨W0, hW0⟩ : ∃ W0, W0 = blk lt bs d := ⟨_, rfl⟩
  rw [← hW0]
  repeat' (first | (first | refine Ya ?_ | refine Yb ?_ | refine Yc ?_ | refine Yd ?_ | refine Ye ?_ | refine Yf ?_ | refine Yg ?_ | refine Yh ?_ | refine Yi ?_ | refine Yj ?_ | refine Yk ?_ | refine Yl ?_ | refine Ym ?_ | refine Yn ?_ | refine Yo ?_ | refine Yp (h := ?_) | refine Yq ?_ | refine Yr ?_ | refine Ys ?_ | refine Zr hc (hk := ?_) | refine Zd hc (hk := ?_) | (refine Zc (ht := fun hb => ?_) (hf := fun hb => ?_) <;> (try simp at hb)) | fail) | (first | refine Zo hc (hk := ?_) | refine Zu hc (hk := ?_) | refine Ze hc (hk := ?_) | fail))
  all_goals try contradiction
  all_goals try (exfalso; omega)
  refine ewp_loop (fun x : Blk => ⟨[(0, .os 100000 N), (1, .d (int N)), (2, .d (.clo (.func g) caps)), (6, .d (int bs)), (7, .d (int x.a)), (8, .d (int x.b))], [obI (x.pre ++ blk lt bs (d.drop x.a))]⟩)
    (fun x => x.b = x.a + 2 * bs ∧ x.a ≤ N ∧ x.pre.length = x.a ∧ x.pre ++ blk lt (2 * bs) (d.drop x.a) = blk lt (2 * bs) d) (fun x => N - x.a) ⟨0, 2 * bs, []⟩ ⟨by simp, Nat.zero_le _, rfl, by simp⟩ (run_back [0, 1, 2, 6, 7, 8] [100000] (by simp; exact Gives.mk) (by simp; exact Gives.mk) (by simp [hW0])) ?_
  clear hW0
  rintro ⟨a, b, pre⟩ ⟨h1, h2, h3, h4⟩
  simp only at h1 h2 h3 h4 ⊢
  have hdl : (d.drop a).length = N - a := by rw [List.length_drop, hN]
  have hnda : (d.drop a).Nodup := hnd.sublist (List.drop_sublist a d)
  have hsa := hsub a
  have hTa := hTd a
  by_cases hbn : b ≤ N
  · obtain ⟨p1, p2⟩ := blk_pair H.lts hnda (show 0 < bs by omega) (show 2 * bs ≤ (d.drop a).length by omega)
    have e0 : (d.drop a).drop (2 * bs) = d.drop b := by rw [List.drop_drop, ← h1]
    rw [e0] at p1 p2
    have et : (d.drop a).take bs ++ ((d.drop a).drop bs).take bs = (d.drop a).take (2 * bs) := by
      rw [show 2 * bs = bs + bs by omega, List.take_add]
    have hM : MergeOk T lt (srt lt ((d.drop a).take bs)) (srt lt (((d.drop a).drop bs).take bs)) :=
      merge_of H.lts (by rw [et]; exact hsa.sublist (List.take_sublist _ _)) (fun x hx => by rw [et] at hx; exact hTa x (List.mem_of_mem_take hx))
    have l1 : (srt lt ((d.drop a).take bs)).length = bs := by rw [srt_length, List.length_take]; omega
    have l2 : (srt lt (((d.drop a).drop bs).take bs)).length = bs := by rw [srt_length, List.length_take, List.length_drop]; omega
    generalize srt lt ((d.drop a).take bs) = T1 at *
    generalize srt lt (((d.drop a).drop bs).take bs) = T2 at *
    have hR := symM_ok H _ pre T1 T2 (blk lt bs (d.drop b)) (a : Int) ((a : Int) + (bs : Int)) (b : Int) (Nat.le_refl _) (by omega) (by omega) (by omega) (by omega) (by omega) hM (by simp [blk_length]; omega)
    unfold SymOk at hR
    have e1 : pre ++ T1 ++ T2 ++ blk lt bs (d.drop b) = pre ++ blk lt bs (d.drop a) := by rw [p1]; simp
    have e2 : (pre ++ blk lt bs (d.drop a)).length = N := by simp [blk_length]; omega
    rw [e1, e2] at hR
    have e3 : pre ++ srt lt (T1 ++ T2) ++ blk lt (2 * bs) (d.drop b) = blk lt (2 * bs) d := by rw [← h4, p2]; simp
    have e4 : (pre ++ srt lt (T1 ++ T2)).length = b := by rw [List.length_append, srt_length, List.length_append]; omega
    generalize pre ++ srt lt (T1 ++ T2) = pre2 at *
    obtain ⟨W, hW⟩ : ∃ W, W = pre ++ blk lt bs (d.drop a) := ⟨_, rfl⟩
    obtain ⟨W2, hW2⟩ : ∃ W2, W2 = pre2 ++ blk lt bs (d.drop b) := ⟨_, rfl⟩
    rw [← hW] at hR ⊢
    rw [← hW2] at hR
    repeat' (first | (first | refine Ya ?_ | refine Yb ?_ | refine Yc ?_ | refine Yd ?_ | refine Ye ?_ | refine Yf ?_ | refine Yg ?_ | refine Yh ?_ | refine Yi ?_ | refine Yj ?_ | refine Yk ?_ | refine Yl ?_ | refine Ym ?_ | refine Yn ?_ | refine Yo ?_ | refine Yp (h := ?_) | refine Yq ?_ | refine Yr ?_ | refine Ys ?_ | refine Zr hc (hk := ?_) | refine Zd hc (hk := ?_) | (refine Zc (ht := fun hb => ?_) (hf := fun hb => ?_) <;> (try simp at hb)) | fail) | ((first | refine run_callM ([(100000, 100000)]) (hR) hc (by simp; exact Gives.mk) (by simp; exact Gives.mk) (by simp; exact Gives.mk) (by simp; exact Gives.mk) (by simp; exact Gives.mk) rfl (by simp; exact Gives.mk) (by simp; exact Gives.mk) rfl (by simp) (by simp) (by simp; exact Gives.mk) (by simp; exact Gives.mk) ?_ | fail)) | (first | refine Zo hc (hk := ?_) | refine Zu hc (hk := ?_) | refine Ze hc (hk := ?_) | fail))
    all_goals try contradiction
    all_goals try (exfalso; omega)
    refine ⟨⟨b, b + 2 * bs, pre2⟩, ⟨rfl, by simp only; omega, e4, e3⟩, by simp only; omega, run_back [0, 1, 2, 6, 7, 8] [100000] (by simp; exact Gives.mk) (by simp; exact Gives.mk) ?_⟩
    simp only [← hW2]
    simp
  by_cases hmn : a + bs < N
  · have q1 := blk_two (lt := lt) (d := d.drop a) (show 0 < bs by omega) (by omega) (by omega)
    have q2 := blk_tail H.lts hnda (show 0 < bs by omega) (by omega) (by omega)
    have hM : MergeOk T lt (srt lt ((d.drop a).take bs)) (srt lt ((d.drop a).drop bs)) :=
      merge_of H.lts (by rw [List.take_append_drop]; exact hsa) (fun x hx => by rw [List.take_append_drop] at hx; exact hTa x hx)
    have l1 : (srt lt ((d.drop a).take bs)).length = bs := by rw [srt_length, List.length_take]; omega
    have l2 : (srt lt ((d.drop a).drop bs)).length = N - a - bs := by rw [srt_length, List.length_drop, hdl]
    generalize srt lt ((d.drop a).take bs) = T1 at *
    generalize srt lt ((d.drop a).drop bs) = T2 at *
    have hR := symM_ok H _ pre T1 T2 [] (a : Int) ((a : Int) + (bs : Int)) (N : Int) (Nat.le_refl _) (by omega) (by omega) (by omega) (by omega) (by omega) hM (by simp; omega)
    unfold SymOk at hR
    have e1 : pre ++ T1 ++ T2 ++ [] = pre ++ blk lt bs (d.drop a) := by rw [q1]; simp
    have e2 : (pre ++ blk lt bs (d.drop a)).length = N := by simp [blk_length]; omega
    have e3 : pre ++ srt lt (T1 ++ T2) ++ [] = blk lt (2 * bs) d := by rw [← h4, q2]; simp
    rw [e1, e2, e3] at hR
    generalize pre ++ blk lt bs (d.drop a) = W at *
    obtain ⟨W2, hW2⟩ : ∃ W2, W2 = blk lt (2 * bs) d := ⟨_, rfl⟩
    rw [← hW2] at hR
    repeat' (first | (first | refine Ya ?_ | refine Yb ?_ | refine Yc ?_ | refine Yd ?_ | refine Ye ?_ | refine Yf ?_ | refine Yg ?_ | refine Yh ?_ | refine Yi ?_ | refine Yj ?_ | refine Yk ?_ | refine Yl ?_ | refine Ym ?_ | refine Yn ?_ | refine Yo ?_ | refine Yp (h := ?_) | refine Yq ?_ | refine Yr ?_ | refine Ys ?_ | refine Zr hc (hk := ?_) | refine Zd hc (hk := ?_) | (refine Zc (ht := fun hb => ?_) (hf := fun hb => ?_) <;> (try simp at hb)) | fail) | ((first | refine run_callM ([(100000, 100000)]) (hR) hc (by simp; exact Gives.mk) (by simp; exact Gives.mk) (by simp; exact Gives.mk) (by simp; exact Gives.mk) (by simp; exact Gives.mk) rfl (by simp; exact Gives.mk) (by simp; exact Gives.mk) rfl (by simp) (by simp) (by simp; exact Gives.mk) (by simp; exact Gives.mk) ?_ | fail)) | (first | refine Zo hc (hk := ?_) | refine Zu hc (hk := ?_) | refine Ze hc (hk := ?_) | fail))
    all_goals try contradiction
    all_goals try (exfalso; omega)
    refine ⟨2 * bs, ⟨by omega, by omega⟩, by omega, run_back [0, 1, 2, 6] [100000] (by simp; exact Gives.mk) (by simp; exact Gives.mk) ?_⟩
    simp only [← hW2]
    simp
    try omega
  · have q1 := blk_one (lt := lt) (d := d.drop a) (show 0 < bs by omega) (by omega)
    have q2 := blk_one (lt := lt) (d := d.drop a) (show 0 < 2 * bs by omega) (by omega)
    have e3 : pre ++ blk lt bs (d.drop a) = blk lt (2 * bs) d := by rw [← h4, q1, q2]
    rw [e3]
    obtain ⟨W2, hW2⟩ : ∃ W2, W2 = blk lt (2 * bs) d := ⟨_, rfl⟩
    rw [← hW2]
    repeat' (first | (first | refine Ya ?_ | refine Yb ?_ | refine Yc ?_ | refine Yd ?_ | refine Ye ?_ | refine Yf ?_ | refine Yg ?_ | refine Yh ?_ | refine Yi ?_ | refine Yj ?_ | refine Yk ?_ | refine Yl ?_ | refine Ym ?_ | refine Yn ?_ | refine Yo ?_ | refine Yp (h := ?_) | refine Yq ?_ | refine Yr ?_ | refine Ys ?_ | refine Zr hc (hk := ?_) | refine Zd hc (hk := ?_) | (refine Zc (ht := fun hb => ?_) (hf := fun hb => ?_) <;> (try simp at hb)) | fail) | (first | refine Zo hc (hk := ?_) | refine Zu hc (hk := ?_) | refine Ze hc (hk := ?_) | fail))
    all_goals try contradiction
    all_goals try (exfalso; omega)
    refine ⟨2 * bs, ⟨by omega, by omega⟩, by omega, run_back [0, 1, 2, 6] [100000] (by simp; exact Gives.mk) (by simp; exact Gives.mk) ?_⟩
    simp only [← hW2]
    simp
    try omega
theorem sortStable_ok {g : FuncId} {caps : List D} {T : Int → Prop} {lt : Int → Int → Bool} {cmp : Int → Int → Int} (H : CmpOk g caps T lt cmp) (d : List Int) (hT : ∀ x ∈ d, T x) (hinc : d.Pairwise (· < ·)) (hl : d.length ≤ 300) :
    FnMem Tryz.prog 92 [.os 100000 d.length, .d (.clo (.func g) caps)] [obI d] noV [obI (srt lt d)] := by
  refine fnMem Tryz.func92 rfl (by kernel_rfl) Tryz.ntmps92 _ rfl (by simp) fun C hc => ?_
  have h := stable_ok H d hT hinc hl
  generalize srt lt d = R at *
  repeat' (first | (first | refine Ya ?_ | refine Yb ?_ | refine Yc ?_ | refine Yd ?_ | refine Ye ?_ | refine Yf ?_ | refine Yg ?_ | refine Yh ?_ | refine Yi ?_ | refine Yj ?_ | refine Yk ?_ | refine Yl ?_ | refine Ym ?_ | refine Yn ?_ | refine Yo ?_ | refine Yp (h := ?_) | refine Yq ?_ | refine Yr ?_ | refine Ys ?_ | refine Zr hc (hk := ?_) | refine Zd hc (hk := ?_) | (refine Zc (ht := fun hb => ?_) (hf := fun hb => ?_) <;> (try simp at hb)) | fail) | ((first | refine run_callM ([(100000, 100000)]) (h) hc (by simp; exact Gives.mk) (by simp; exact Gives.mk) (by simp; exact Gives.mk) (by simp; exact Gives.mk) (by simp; exact Gives.mk) rfl (by simp; exact Gives.mk) (by simp; exact Gives.mk) rfl (by simp) (by simp) (by simp; exact Gives.mk) (by simp; exact Gives.mk) ?_ | fail)) | (first | refine Zo hc (hk := ?_) | refine Zu hc (hk := ?_) | refine Ze hc (hk := ?_) | fail))
  (refine run_leaveM [100000] hc (le_end rfl) (by simp; exact Gives.mk) (by simp; exact Gives.mk) (by first | (simp; done) | (simp; omega)) ?_)
  simp
end Go.Proofs.YtnainpghpjelcaaGreatDoor
