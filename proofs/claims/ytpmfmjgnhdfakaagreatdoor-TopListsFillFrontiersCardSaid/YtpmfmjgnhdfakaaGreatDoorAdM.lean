/-
  ADDRESS: dots of paths. (WITH run_drawN.)
-/
import Derived.Test.YtpmfmjgnhdfakaaGreatDoorAdW
import Derived.Test.YtpmfmjgnhdfakaaGreatDoorLwPh
set_option linter.unusedSimpArgs false
set_option linter.unusedVariables false
namespace Go.Proofs.YtpmfmjgnhdfakaaGreatDoor
open Go.Lw Go.RowKit
set_option maxRecDepth 100000
set_option maxHeartbeats 1000000

def udStep (last : Bool) (o : List Bs) (p : Bs) : List Bs :=
  if p = [46, 46] then (if last = true then o.take (o.length - 1) ++ [[]] else o.take (o.length - 1))
  else if p = [46] then (if last = true then o ++ [[]] else o) else o ++ [p]
/-- What is left of the parts, after so many of them. -/
def udAt (P : List Bs) : Nat → List Bs
  | 0 => []
  | j + 1 => udStep (decide (j + 1 = P.length)) (udAt P j) (P[j]?.getD [])
def undotP (s : Bs) : Bs := if s = [] then [] else 47 :: Lib.join (udAt (Lib.split (s.drop 1) [47]) (Lib.split (s.drop 1) [47]).length) [47]
theorem udStep_len (b : Bool) (o : List Bs) (p : Bs) : (udStep b o p).length ≤ o.length + 1 := by
  unfold udStep
  repeat' split
  all_goals simp
  all_goals omega
theorem udAt_len (P : List Bs) : ∀ j, (udAt P j).length ≤ j
  | 0 => by simp [udAt]
  | j + 1 => by
    have h1 := udAt_len P j
    have h2 := udStep_len (decide (j + 1 = P.length)) (udAt P j) (P[j]?.getD [])
    simp only [udAt]
    omega
theorem udStep_mem (b : Bool) (o : List Bs) (p x : Bs) (h : x ∈ udStep b o p) : x ∈ o ∨ x = p ∨ x = [] := by
  unfold udStep at h
  split at h
  · split at h
    · rcases List.mem_append.1 h with h | h
      · exact .inl (List.mem_of_mem_take h)
      · exact .inr (.inr (by simpa using h))
    · exact .inl (List.mem_of_mem_take h)
  · split at h
    · split at h
      · rcases List.mem_append.1 h with h | h
        · exact .inl h
        · exact .inr (.inr (by simpa using h))
      · exact .inl h
    · rcases List.mem_append.1 h with h | h
      · exact .inl h
      · exact .inr (.inl (by simpa using h))
theorem udAt_mem (P : List Bs) (M : Nat) (hP : ∀ j : Nat, (P[j]?.getD []).length ≤ M) : ∀ j, ∀ x ∈ udAt P j, x.length ≤ M
  | 0, x, h => by simp [udAt] at h
  | j + 1, x, h => by
    rcases udStep_mem _ _ _ _ h with h | h | h
    · exact udAt_mem P M hP j x h
    · rw [h]; exact hP j
    · rw [h]; simp
theorem join_le (c : UInt8) (M : Nat) : ∀ L : List Bs, (∀ x ∈ L, x.length ≤ M) → (Lib.join L [c]).length ≤ L.length * (M + 1)
  | [], _ => by simp [Lib.join_nil]
  | [x], h => by
    have := h x (by simp)
    rw [Lib.join_one]
    simp
    omega
  | x :: y :: L, h => by
    have h1 := join_le c M (y :: L) (fun z hz => h z (List.mem_cons_of_mem _ hz))
    have h2 := h x (by simp)
    rw [join_two]
    simp only [List.length_append, List.length_cons, List.length_nil] at h1 ⊢
    rw [show (L.length + 1 + 1) * (M + 1) = (L.length + 1) * (M + 1) + (M + 1) by rw [Nat.succ_mul]]
    omega
theorem split_each (c : UInt8) (s : Bs) : ∀ x ∈ Lib.split s [c], x.length ≤ s.length := by
  generalize hn : s.length = n
  induction n using Nat.strongRecOn generalizing s with
  | _ n ih =>
    rcases parted c s with h | ⟨x, y, rfl, h⟩
    · rw [split_none c s h]; simp; omega
    · rw [split_app c x y h]
      intro z hz
      simp at hn
      cases hz with
      | head => omega
      | tail _ hz => have := ih y.length (by omega) y rfl z hz; omega
theorem undot_ok (s : Bs) (hm : s.length ≤ 100000) : FnOk Tryz.prog 94 [str s] (str (undotP s)) := by
  refine fnOk Tryz.func94 rfl (by kernel_rfl) Tryz.ntmps94 _ rfl (by simp) fun C hc => ?_
  unfold undotP
  by_cases h0 : s = []
  · subst h0
    rw [if_pos rfl]
    repeat' (first | (first | refine Ya ?_ | refine Yb ?_ | refine Yc ?_ | refine Yd ?_ | refine Ye ?_ | refine Yf ?_ | refine Yg ?_ | refine Yh ?_ | refine Yi ?_ | refine Yj ?_ | refine Yk ?_ | refine Yl ?_ | refine Ym ?_ | refine Yn ?_ | refine Yo ?_ | refine Yp (h := ?_) | refine Yq ?_ | refine Yr ?_ | refine Ys ?_ | refine Zr hc (hk := ?_) | refine Zd hc (hk := ?_) | (refine Zc (ht := fun hb => ?_) (hf := fun hb => ?_) <;> (try simp at hb)) | fail) | (first | refine Zo hc (hk := ?_) | refine Zu hc (hk := ?_) | refine Ze hc (hk := ?_) | refine Zn hc (hk := ?_) | fail))
    all_goals try contradiction
    (refine Zl hc (hr := ?_))
    simp
  rw [if_neg h0]
  have hpos : 0 < s.length := List.length_pos_iff.2 h0
  have hsp := split_ok (s.drop 1) 47 (by simp; omega)
  have hne := split_ne 47 (s.drop 1)
  have hlen := split_len (s.drop 1) 47
  have heach := split_each 47 (s.drop 1)
  rw [List.length_drop] at hlen heach
  rw [List.drop_one] at hsp hne hlen heach ⊢
  generalize Lib.split s.tail [47] = P at hsp hne hlen heach ⊢
  have hP1 : 1 ≤ P.length := List.length_pos_iff.2 hne
  have hPm : ∀ j : Nat, (P[j]?.getD []).length ≤ 100000 := by
    intro j
    rcases Nat.lt_or_ge j P.length with hj | hj
    · rw [List.getElem?_eq_getElem hj]
      have := heach _ (List.getElem_mem hj)
      simp only [Option.getD_some]
      omega
    · rw [List.getElem?_eq_none hj]; simp
  repeat' (first | (first | refine Ya ?_ | refine Yb ?_ | refine Yc ?_ | refine Yd ?_ | refine Ye ?_ | refine Yf ?_ | refine Yg ?_ | refine Yh ?_ | refine Yi ?_ | refine Yj ?_ | refine Yk ?_ | refine Yl ?_ | refine Ym ?_ | refine Yn ?_ | refine Yo ?_ | refine Yp (h := ?_) | refine Yq ?_ | refine Yr ?_ | refine Ys ?_ | refine Zr hc (hk := ?_) | refine Zd hc (hk := ?_) | (refine Zc (ht := fun hb => ?_) (hf := fun hb => ?_) <;> (try simp at hb)) | fail) | (first | refine Zw hc (hf := by exact hsp) (hk := ?_) | refine Zq hc (hf := by exact hsp) (hk := ?_) | refine Zo hc (hk := ?_) | refine Zu hc (hk := ?_) | refine Ze hc (hk := ?_) | refine Zn hc (hk := ?_) | fail))
  all_goals try contradiction
  refine ewp_loop (fun x : Nat × List Bs × Nat => ⟨[(3, .d (strSl P)), (4, .os 40000 x.2.2), (12, .d (strSl P)), (13, .d (int P.length)), (14, .d (int x.1))], [(40000, .own 9 1 (true, [str []]) (x.2.1.map fun y => [str y]))]⟩) (fun x => x.1 ≤ P.length ∧ x.2.2 ≤ x.2.1.length ∧ x.2.1.length ≤ x.1 ∧ x.2.1.take x.2.2 = udAt P x.1 ∧ (x.1 = P.length → x.2.2 = x.2.1.length)) (fun x => P.length - x.1) (0, [], 0) (by first | (simp [udAt]; done) | (simp [udAt]; omega)) (run_keepB [(4, none, 40000, 9, [str []])] [3, 4, 12, 13, 14] [40000] (by simp; exact Gives.mk) (by simp; exact Gives.mk) (by simp; exact Gives.mk)) ?_
  rintro ⟨j, es, n⟩ ⟨h1, h2, h3, h4, h5⟩
  simp only at h1 h2 h3 h4 h5 ⊢
  by_cases hj : j < P.length
  rotate_left
  · obtain rfl : j = P.length := by omega
    have hn := h5 rfl
    rw [hn, List.take_length] at h4
    rw [← h4]
    have hjl := join_le 47 100000 es (fun x hx => udAt_mem P 100000 hPm P.length x (h4 ▸ hx))
    have hjn : FnOk Tryz.prog 109 [.sl es.length fun i => [str (es[i]?.getD [])], str [47]] (str (Lib.join es [47])) := by
      rw [show (D.sl es.length fun i => [str (es[i]?.getD [])]) = strSl es by simp [strSl]]
      exact join_ok es [47] (by omega) (by omega)
    subst hn
    repeat' (first | (first | refine Ya ?_ | refine Yb ?_ | refine Yc ?_ | refine Yd ?_ | refine Ye ?_ | refine Yf ?_ | refine Yg ?_ | refine Yh ?_ | refine Yi ?_ | refine Yj ?_ | refine Yk ?_ | refine Yl ?_ | refine Ym ?_ | refine Yn ?_ | refine Yo ?_ | refine Yp (h := ?_) | refine Yq ?_ | refine Yr ?_ | refine Ys ?_ | refine Zr hc (hk := ?_) | refine Zd hc (hk := ?_) | (refine Zc (ht := fun hb => ?_) (hf := fun hb => ?_) <;> (try simp at hb)) | fail) | (first | refine Zw hc (hf := by exact hjn) (hk := ?_) | refine Zq hc (hf := by exact hjn) (hk := ?_) | refine Zo hc (hk := ?_) | refine Zu hc (hk := ?_) | refine Ze hc (hk := ?_) | refine Zn hc (hk := ?_) | fail))
    all_goals try (exfalso; omega)
    (refine Zl hc (hr := ?_))
    simp
  have hst : udAt P (j + 1) = udStep (decide (j + 1 = P.length)) (udAt P j) (P[j]?.getD []) := rfl
  rw [← h4] at hst
  have eM : (if 1 < (n : Int) then (n : Int) - 1 else 0).toNat = n - 1 := by split <;> omega
  have htk : (es.take n).length = n := by simp; omega
  have htt : (es.take n).take (n - 1) = es.take (n - 1) := by rw [List.take_take]; congr 1; omega
  unfold udStep at hst
  rw [htk, htt] at hst
  repeat' (first | (first | refine Ya ?_ | refine Yb ?_ | refine Yc ?_ | refine Yd ?_ | refine Ye ?_ | refine Yf ?_ | refine Yg ?_ | refine Yh ?_ | refine Yi ?_ | refine Yj ?_ | refine Yk ?_ | refine Yl ?_ | refine Ym ?_ | refine Yn ?_ | refine Yo ?_ | refine Yp (h := ?_) | refine Yq ?_ | refine Yr ?_ | refine Ys ?_ | refine Zr hc (hk := ?_) | refine Zd hc (hk := ?_) | (refine Zc (ht := fun hb => ?_) (hf := fun hb => ?_) <;> (try simp at hb)) | fail) | (first | refine Zo hc (hk := ?_) | refine Zu hc (hk := ?_) | refine Ze hc (hk := ?_) | refine Zn hc (hk := ?_) | fail))
  · rename_i g1 g2
    rw [if_pos g2, if_pos (decide_eq_true (by omega))] at hst
    refine ⟨(j + 1, es.take (n - 1) ++ [[]], n - 1 + 1), ⟨by simp; omega, by simp; omega, by simp; omega, ?_, fun _ => by simp; omega⟩, by simp; omega, run_back [3, 4, 12, 13, 14] [40000] (by simp; exact Gives.mk) (by simp; exact Gives.mk) (by rw [eM]; simp [List.map_take])⟩
    simp only
    rw [hst, List.take_of_length_le (by simp; omega)]
  · rename_i g1 g2
    rw [if_pos g2, if_neg (by rw [decide_eq_false (by omega)]; decide)] at hst
    refine ⟨(j + 1, es, n - 1), ⟨by simp; omega, by simp; omega, by simp; omega, ?_, fun h => by simp at h; omega⟩, by simp; omega, run_back [3, 4, 12, 13, 14] [40000] (by simp; exact Gives.mk) (by simp; exact Gives.mk) (by rw [eM]; simp)⟩
    exact hst.symm
  · rename_i g1 g2
    rw [if_neg g2, if_neg hb] at hst
    refine ⟨(j + 1, es.take n ++ [P[j]?.getD []], n + 1), ⟨by simp; omega, by simp; omega, by simp; omega, ?_, fun _ => by simp; omega⟩, by simp; omega, run_back [3, 4, 12, 13, 14] [40000] (by simp; exact Gives.mk) (by simp; exact Gives.mk) (by simp [List.map_take])⟩
    simp only
    rw [hst, List.take_of_length_le (by simp; omega)]
  · rename_i g1 g2 g3
    rw [if_neg g2, if_pos g3, if_pos (decide_eq_true (by omega))] at hst
    refine ⟨(j + 1, es.take n ++ [[]], n + 1), ⟨by simp; omega, by simp; omega, by simp; omega, ?_, fun _ => by simp; omega⟩, by simp; omega, run_back [3, 4, 12, 13, 14] [40000] (by simp; exact Gives.mk) (by simp; exact Gives.mk) (by simp [List.map_take])⟩
    simp only
    rw [hst, List.take_of_length_le (by simp; omega)]
  · rename_i g1 g2 g3
    rw [if_neg g2, if_pos g3, if_neg (by rw [decide_eq_false (by omega)]; decide)] at hst
    refine ⟨(j + 1, es, n), ⟨by simp; omega, by simp; omega, by simp; omega, ?_, fun h => by simp at h; omega⟩, by simp; omega, run_back [3, 4, 12, 13, 14] [40000] (by simp; exact Gives.mk) (by simp; exact Gives.mk) (by simp)⟩
    exact hst.symm
  all_goals (exfalso; omega)
end Go.Proofs.YtpmfmjgnhdfakaaGreatDoor
