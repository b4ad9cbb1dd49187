/-
  CHAPTER 1's REFERENCE: queries of keys by rules. (WITH run_drawN.)
-/
import Derived.Test.YtglonkenckigiaaGreatDoorKeyPc
import Derived.Test.YtglonkenckigiaaGreatDoorKeyS
import Derived.Sort.Walk0
set_option linter.unusedSimpArgs false
set_option linter.unusedVariables false
namespace Go.Proofs.YtglonkenckigiaaGreatDoor
open Go.Lw Go.RowKit
set_option maxRecDepth 100000
set_option maxHeartbeats 1000000

/-- Where a part is put in, from a place to the left. -/
def insAt (b : Bool) (M : List Bs) (p : Bs) : Nat → Nat
  | 0 => 0
  | k + 1 => if b = true ∧ Op.bytesLess (M[k]?.getD []) p = false ∧ M[k]?.getD [] ≠ p then insAt b M p k else k + 1
def insP (b : Bool) (M : List Bs) (p : Bs) : List Bs := M.take (insAt b M p M.length) ++ p :: M.drop (insAt b M p M.length)
def qStep (b : Bool) (R : List Rul) (M : List Bs) (p : Bs) : List Bs := if stays R p = true then insP b M p else M
def qAt (b : Bool) (R : List Rul) (L : List Bs) : Nat → List Bs
  | 0 => []
  | j + 1 => qStep b R (qAt b R L j) (L[j]?.getD [])
theorem insAt_le (b : Bool) (M : List Bs) (p : Bs) : ∀ k, insAt b M p k ≤ k
  | 0 => Nat.le_refl _
  | k + 1 => by
    rw [insAt]
    split
    · have := insAt_le b M p k
      omega
    · exact Nat.le_refl _
theorem insAt_no (M : List Bs) (p : Bs) : ∀ k, insAt false M p k = k
  | 0 => rfl
  | k + 1 => by rw [insAt, if_neg (fun e => by cases e.1)]
theorem insAt_go (M : List Bs) (p : Bs) (k : Nat) (h : 0 < k ∧ Op.bytesLess (M[k - 1]?.getD []) p = false ∧ ¬ M[k - 1]?.getD [] = p) : insAt true M p k = insAt true M p (k - 1) := by
  obtain ⟨n, rfl⟩ : ∃ n, k = n + 1 := ⟨k - 1, by omega⟩
  rw [Nat.add_sub_cancel] at h ⊢
  rw [insAt, if_pos ⟨rfl, h.2.1, h.2.2⟩]
theorem insAt_stop (M : List Bs) (p : Bs) (k : Nat) (h : 0 < k → Op.bytesLess (M[k - 1]?.getD []) p = false → M[k - 1]?.getD [] = p) : insAt true M p k = k := by
  cases k with
  | zero => rfl
  | succ n =>
    rw [Nat.add_sub_cancel] at h
    rw [insAt, if_neg (fun e => e.2.2 (h (by omega) e.2.1))]
theorem ins_cells (M : List Bs) (p : Bs) (k : Nat) (hk : k ≤ M.length) : List.take (k + 1) (List.take k (List.map (fun i => [str (M[i]?.getD [])]) (List.range k)) ++ [[str p]]) ++ List.map (fun i => [str (M[k + i]?.getD [])]) (List.range (M.length - k)) = (M.take k ++ p :: M.drop k).map (fun x => [str x]) := by
  have e1 : List.map (fun i => [str (M[i]?.getD [])]) (List.range k) = (M.take k).map (fun x => [str x]) := by
    apply List.ext_getElem
    · simp [hk]
    · intro i h1 h2
      have hi : i < M.length := by simp at h1; omega
      simp [hi]
  have e2 : List.map (fun i => [str (M[k + i]?.getD [])]) (List.range (M.length - k)) = (M.drop k).map (fun x => [str x]) := by
    apply List.ext_getElem
    · simp
    · intro i h1 h2
      have hi : k + i < M.length := by simp at h1; omega
      simp [hi]
  rw [e1, e2, List.take_of_length_le (by simp; omega), List.take_of_length_le (by simp; omega)]
  simp
theorem insP_len (b : Bool) (M : List Bs) (p : Bs) : (insP b M p).length = M.length + 1 := by
  have := insAt_le b M p M.length
  unfold insP
  simp
  omega
theorem qAt_len (b : Bool) (R : List Rul) (L : List Bs) : ∀ j, (qAt b R L j).length ≤ j
  | 0 => by simp [qAt]
  | j + 1 => by
    have := qAt_len b R L j
    rw [qAt]
    unfold qStep
    split
    · rw [insP_len]; omega
    · omega
theorem qAt_mem (b : Bool) (R : List Rul) (L : List Bs) : ∀ j, ∀ x ∈ qAt b R L j, x ∈ L ∨ x = []
  | 0, x, h => by simp [qAt] at h
  | j + 1, x, h => by
    have ih := qAt_mem b R L j
    have hg : L[j]?.getD [] ∈ L ∨ L[j]?.getD [] = [] := by
      rcases Nat.lt_or_ge j L.length with h | h
      · left; rw [List.getElem?_eq_getElem h]; exact List.getElem_mem h
      · right; rw [List.getElem?_eq_none h]; rfl
    rw [qAt] at h
    unfold qStep at h
    split at h
    · unfold insP at h
      rcases List.mem_append.1 h with h | h
      · exact ih x (List.mem_of_mem_take h)
      · rcases List.mem_cons.1 h with rfl | h
        · exact hg
        · exact ih x (List.mem_of_mem_drop h)
    · exact ih x h
theorem qQueryOf_walk (q : Bs) (R : List Rul) (hq : q.length ≤ 100000) (hm : R.length ≤ 200000) : FnOk Tryz.prog 114 [str q, rulSl R] (str (if qAt (decide (((6, []) : Rul) ∈ R)) R (Lib.split q [38]) (Lib.split q [38]).length = [] then [] else 63 :: Lib.join (qAt (decide (((6, []) : Rul) ∈ R)) R (Lib.split q [38]) (Lib.split q [38]).length) [38])) := by
  refine fnOk Tryz.func114 rfl (by kernel_rfl) Tryz.ntmps114 _ rfl (by simp) fun C hc => ?_
  have hS := split_ok q 38 (by omega)
  have hlen := split_len q 38
  have heach := split_each 38 q
  have h6 := says_ok R 6 [] hm
  generalize Lib.split q [38] = L at hS hlen heach ⊢
  generalize decide (((6, []) : Rul) ∈ R) = b at h6 ⊢
  repeat' (first | (first | refine Ya ?_ | refine Yb ?_ | refine Yc ?_ | refine Yd ?_ | refine Ye ?_ | refine Yf ?_ | refine Yg ?_ | refine Yh ?_ | refine Yi ?_ | refine Yj ?_ | refine Yk ?_ | refine Yl ?_ | refine Ym ?_ | refine Yn ?_ | refine Yo ?_ | refine Yp (h := ?_) | refine Yq ?_ | refine Yr ?_ | refine Ys ?_ | refine Zr hc (hk := ?_) | refine Zd hc (hk := ?_) | (refine Zc (ht := fun hb => ?_) (hf := fun hb => ?_) <;> (try simp at hb)) | fail) | (first | refine Zw hc (hf := by exact hS) (hk := ?_) | refine Zq hc (hf := by exact hS) (hk := ?_) | refine Zo hc (hk := ?_) | refine Zu hc (hk := ?_) | refine Ze hc (hk := ?_) | refine Zn hc (hk := ?_) | fail))
  refine ewp_loop (fun x : Nat × List Bs => ⟨[(1, .d (rulSl R)), (5, .d (strSl L)), (6, .d (partsD x.2)), (7, .d (int x.1))], []⟩) (fun x => x.1 ≤ L.length ∧ x.2 = qAt b R L x.1) (fun x => L.length - x.1) (0, []) (by simp [qAt]) (le_births [(6, none, 40000, 9, [str []])] (by simp; exact Gives.mk) (le_seal 40000 hc (by simp; exact Gives.mk) (by simp) (run_back [1, 5, 6, 7] [] (by simp; exact Gives.mk) (by simp; exact Gives.mk) (by simp)))) ?_
  rintro ⟨j, M⟩ ⟨hj1, hM⟩
  simp only at hj1 hM ⊢
  by_cases hlt : j < L.length
  · have hel := heach _ (List.getElem_mem hlt)
    have hC := cut_ok (L[j]?.getD []) 61 (by rw [List.getElem?_eq_getElem hlt]; simp only [Option.getD_some]; omega)
    have h7 := says_ok R 7 (Lib.cut (L[j]?.getD []) [61]).1 hm
    have hst : stays R (L[j]?.getD []) = (decide ((Lib.cut (L[j]?.getD []) [61]).1 = []) || !decide ((7, (Lib.cut (L[j]?.getD []) [61]).1) ∈ R)) := rfl
    have hMl : M.length ≤ j := by rw [hM]; exact qAt_len b R L j
    have hq1 : qAt b R L (j + 1) = qStep b R M (L[j]?.getD []) := by rw [qAt, ← hM]
    generalize decide ((7, (Lib.cut (L[j]?.getD []) [61]).1) ∈ R) = b7 at h7 hst
    generalize Lib.cut (L[j]?.getD []) [61] = z at hC h7 hst
    clear hM
    repeat' (first | (first | refine Ya ?_ | refine Yb ?_ | refine Yc ?_ | refine Yd ?_ | refine Ye ?_ | refine Yf ?_ | refine Yg ?_ | refine Yh ?_ | refine Yi ?_ | refine Yj ?_ | refine Yk ?_ | refine Yl ?_ | refine Ym ?_ | refine Yn ?_ | refine Yo ?_ | refine Yp (h := ?_) | refine Yq ?_ | refine Yr ?_ | refine Ys ?_ | refine Zr hc (hk := ?_) | refine Zd hc (hk := ?_) | (refine Zc (ht := fun hb => ?_) (hf := fun hb => ?_) <;> (try simp at hb)) | fail) | (first | refine Zw hc (hf := by first | exact hC | exact h7) (hk := ?_) | refine Zq hc (hf := by first | exact hC | exact h7) (hk := ?_) | refine Zo hc (hk := ?_) | refine Zu hc (hk := ?_) | refine Ze hc (hk := ?_) | refine Zn hc (hk := ?_) | fail))
    all_goals try (exfalso; omega)
    all_goals try contradiction
    · have hs1 : stays R (L[j]?.getD []) = false := by rw [hst]; simp [hb.1, hb.2]
      refine ⟨(j + 1, M), ⟨by simp only; omega, ?_⟩, by simp only; omega, run_back [1, 5, 6, 7] [] (by simp; exact Gives.mk) (by simp; exact Gives.mk) (by simp)⟩
      simp only
      rw [hq1]
      unfold qStep
      rw [if_neg (by simp [hs1])]
    · have hs1 : stays R (L[j]?.getD []) = true := by
        rw [hst]
        by_cases hz : z.1 = []
        · simp [hz]
        · simp [hb hz]
      unfold qStep insP at hq1
      rw [if_pos hs1] at hq1
      clear hs1 hst h7 hC hb
      refine ewp_loop (fun k : Nat => ⟨[(1, .d (rulSl R)), (5, .d (strSl L)), (6, .d (partsD M)), (7, .d (int j)), (11, .d (int k))], []⟩) (fun k => k ≤ M.length ∧ insAt b M (L[j]?.getD []) M.length = insAt b M (L[j]?.getD []) k) (fun k => k) M.length (by simp) (run_keep [1, 5, 6, 7, 11] [] (by simp; exact Gives.mk) (by simp; exact Gives.mk)) ?_
      rintro k ⟨hk, hI⟩
      cases b
      · rw [insAt_no] at hI hq1
        rw [insAt_no] at hI
        rw [hI] at hq1
        repeat' (first | (first | refine Ya ?_ | refine Yb ?_ | refine Yc ?_ | refine Yd ?_ | refine Ye ?_ | refine Yf ?_ | refine Yg ?_ | refine Yh ?_ | refine Yi ?_ | refine Yj ?_ | refine Yk ?_ | refine Yl ?_ | refine Ym ?_ | refine Yn ?_ | refine Yo ?_ | refine Yp (h := ?_) | refine Yq ?_ | refine Yr ?_ | refine Ys ?_ | refine Zr hc (hk := ?_) | refine Zd hc (hk := ?_) | (refine Zc (ht := fun hb => ?_) (hf := fun hb => ?_) <;> (try simp at hb)) | fail) | (first | refine Zw hc (hf := by exact h6) (hk := ?_) | refine Zq hc (hf := by exact h6) (hk := ?_) | refine Zo hc (hk := ?_) | refine Zu hc (hk := ?_) | refine Ze hc (hk := ?_) | refine Zn hc (hk := ?_) | fail))
        all_goals try (exfalso; omega)
        all_goals try contradiction
        refine ⟨(j + 1, M.take k ++ L[j]?.getD [] :: M.drop k), ⟨by simp only; omega, hq1.symm⟩, by simp only; omega, le_seal 63 hc (by simp; exact Gives.mk) (by simp) (run_back [1, 5, 6, 7] [] (by simp; exact Gives.mk) (by simp; exact Gives.mk) ?_)⟩
        rw [ins_cells M (L[j]?.getD []) k hk]
        have e3 : (M.take k ++ L[j]?.getD [] :: M.drop k).length = k + 1 + (M.length - k) := by simp; omega
        have e2 : (fun i : Nat => ((M.take k ++ L[j]?.getD [] :: M.drop k).map (fun x => [str x]))[i]?.getD [D.lit (Value.string (bs []))]) = fun i : Nat => [str ((M.take k ++ L[j]?.getD [] :: M.drop k)[i]?.getD [])] := by
          funext i
          rw [List.getElem?_map]
          cases (M.take k ++ L[j]?.getD [] :: M.drop k)[i]? <;> rfl
        rw [e2]
        simp only [partsD, e3]
        rfl
      · rw [hI] at hq1
        repeat' (first | (first | refine Ya ?_ | refine Yb ?_ | refine Yc ?_ | refine Yd ?_ | refine Ye ?_ | refine Yf ?_ | refine Yg ?_ | refine Yh ?_ | refine Yi ?_ | refine Yj ?_ | refine Yk ?_ | refine Yl ?_ | refine Ym ?_ | refine Yn ?_ | refine Yo ?_ | refine Yp (h := ?_) | refine Yq ?_ | refine Yr ?_ | refine Ys ?_ | refine Zr hc (hk := ?_) | refine Zd hc (hk := ?_) | (refine Zc (ht := fun hb => ?_) (hf := fun hb => ?_) <;> (try simp at hb)) | fail) | (first | refine Zw hc (hf := by exact h6) (hk := ?_) | refine Zq hc (hf := by exact h6) (hk := ?_) | refine Zo hc (hk := ?_) | refine Zu hc (hk := ?_) | refine Ze hc (hk := ?_) | refine Zn hc (hk := ?_) | fail))
        all_goals try (exfalso; omega)
        all_goals try contradiction
        · exact ⟨k - 1, ⟨by omega, by rw [hI, insAt_go M _ k hb]⟩, by omega, run_back [1, 5, 6, 7, 11] [] (by simp; exact Gives.mk) (by simp; exact Gives.mk) (by simp; omega)⟩
        · rw [insAt_stop M _ k hb] at hq1
          refine ⟨(j + 1, M.take k ++ L[j]?.getD [] :: M.drop k), ⟨by simp only; omega, hq1.symm⟩, by simp only; omega, le_seal 63 hc (by simp; exact Gives.mk) (by simp) (run_back [1, 5, 6, 7] [] (by simp; exact Gives.mk) (by simp; exact Gives.mk) ?_)⟩
          rw [ins_cells M (L[j]?.getD []) k hk]
          have e3 : (M.take k ++ L[j]?.getD [] :: M.drop k).length = k + 1 + (M.length - k) := by simp; omega
          have e2 : (fun i : Nat => ((M.take k ++ L[j]?.getD [] :: M.drop k).map (fun x => [str x]))[i]?.getD [D.lit (Value.string (bs []))]) = fun i : Nat => [str ((M.take k ++ L[j]?.getD [] :: M.drop k)[i]?.getD [])] := by
            funext i
            rw [List.getElem?_map]
            cases (M.take k ++ L[j]?.getD [] :: M.drop k)[i]? <;> rfl
          rw [e2]
          simp only [partsD, e3]
          rfl
  · obtain rfl : j = L.length := by omega
    have hMl : M.length ≤ L.length := by rw [hM]; exact qAt_len b R L L.length
    have hMm : ∀ x ∈ M, x.length ≤ q.length := fun x hx => by
      rw [hM] at hx
      rcases qAt_mem b R L L.length x hx with h | rfl
      · exact Nat.le_trans (heach x h) (by omega)
      · simp
    rw [← hM]
    clear hM
    have hjl := join_le 38 q.length M hMm
    have hmu : M.length * (q.length + 1) ≤ 100002 * 100001 := Nat.mul_le_mul (by omega) (by omega)
    have hjl2 : (Lib.join M [38]).length ≤ 10000300002 := by omega
    clear hjl hmu
    have hJ := join_ok M [38] (by omega) (by omega)
    rw [show strSl M = D.sl M.length fun i => [str (M[i]?.getD [])] by simp [strSl]] at hJ
    repeat' (first | (first | refine Ya ?_ | refine Yb ?_ | refine Yc ?_ | refine Yd ?_ | refine Ye ?_ | refine Yf ?_ | refine Yg ?_ | refine Yh ?_ | refine Yi ?_ | refine Yj ?_ | refine Yk ?_ | refine Yl ?_ | refine Ym ?_ | refine Yn ?_ | refine Yo ?_ | refine Yp (h := ?_) | refine Yq ?_ | refine Yr ?_ | refine Ys ?_ | refine Zr hc (hk := ?_) | refine Zd hc (hk := ?_) | (refine Zc (ht := fun hb => ?_) (hf := fun hb => ?_) <;> (try simp at hb)) | fail) | (first | refine Zw hc (hf := by exact hJ) (hk := ?_) | refine Zq hc (hf := by exact hJ) (hk := ?_) | refine Zo hc (hk := ?_) | refine Zu hc (hk := ?_) | refine Ze hc (hk := ?_) | refine Zn hc (hk := ?_) | fail))
    all_goals try (exfalso; omega)
    · rw [if_pos hb]
      (refine Zl hc (hr := ?_))
      simp
    · rw [if_neg (by simpa using hb)]
      (refine Zl hc (hr := ?_))
      simp
end Go.Proofs.YtglonkenckigiaaGreatDoor
/-
  KEYS BY RULES, PLAIN: the reference's insertion gives what the sorted parts are.
-/
set_option linter.unusedSimpArgs false
set_option linter.unusedVariables false
namespace Go.Proofs.YtglonkenckigiaaGreatDoor
open Go.Lw Go.RowKit
set_option maxRecDepth 100000
set_option maxHeartbeats 1000000

theorem qAt_no (R : List Rul) (L : List Bs) : ∀ j, j ≤ L.length → qAt false R L j = (L.take j).filter (stays R)
  | 0, _ => by simp [qAt]
  | j + 1, h => by
    rw [qAt, qAt_no R L j (by omega), stays_next R L j (by omega)]
    unfold qStep insP
    rw [insAt_no, List.take_length, List.drop_length]
    split <;> simp
theorem less_iff (x y : Bs) : Op.bytesLess x y = true ↔ x < y := by rw [Go.Proofs.bytesLess_eq]; simp
/-- Parts in order. -/
abbrev inOrd (M : List Bs) : Prop := M.Pairwise (fun x y => x ≤ y)
theorem insAt_left (M : List Bs) (p : Bs) (hM : inOrd M) : ∀ k, k ≤ M.length → (∀ x ∈ M.drop k, p ≤ x) → (∀ x ∈ M.take (insAt true M p k), x ≤ p) ∧ (∀ x ∈ M.drop (insAt true M p k), p ≤ x)
  | 0, _, h => by
    rw [insAt]
    exact ⟨fun x hx => by simp at hx, h⟩
  | k + 1, hk, h => by
    have hlt : k < M.length := by omega
    have e : M[k]?.getD [] = M[k] := by rw [List.getElem?_eq_getElem hlt]; rfl
    rw [insAt, e]
    split
    · rename_i hc
      refine insAt_left M p hM k (by omega) fun x hx => ?_
      rw [List.drop_eq_getElem_cons hlt] at hx
      rcases List.mem_cons.1 hx with rfl | hx
      · refine fun hl => ?_
        have := (less_iff _ _).2 hl
        rw [hc.2.1] at this
        cases this
      · exact h x hx
    · rename_i hc
      refine ⟨fun x hx => ?_, h⟩
      have hkp : M[k] ≤ p := by
        by_cases hl : Op.bytesLess M[k] p = true
        · exact List.le_of_lt ((less_iff _ _).1 hl)
        · have : M[k] = p := Classical.byContradiction fun hne => hc ⟨rfl, by simpa using hl, hne⟩
          rw [this]
          exact List.le_refl _
      obtain ⟨i, hi, rfl⟩ := List.getElem_of_mem hx
      simp at hi
      rw [List.getElem_take]
      rcases Nat.lt_or_ge i k with h1 | h1
      · exact List.le_trans ((List.pairwise_iff_getElem.1 hM) i k (by omega) hlt h1) hkp
      · have : i = k := by omega
        subst this
        exact hkp
theorem insP_ord (M : List Bs) (p : Bs) (hM : inOrd M) : inOrd (insP true M p) := by
  obtain ⟨h1, h2⟩ := insAt_left M p hM M.length (Nat.le_refl _) (fun x hx => by simp at hx)
  unfold insP
  generalize insAt true M p M.length = k at h1 h2
  have hs : M = M.take k ++ M.drop k := (List.take_append_drop k M).symm
  have hM2 : inOrd (M.take k ++ M.drop k) := by rw [← hs]; exact hM
  obtain ⟨p1, p2, p3⟩ := List.pairwise_append.1 hM2
  refine List.pairwise_append.2 ⟨p1, List.pairwise_cons.2 ⟨h2, p2⟩, fun a ha b hb => ?_⟩
  rcases List.mem_cons.1 hb with rfl | hb
  · exact h1 a ha
  · exact p3 a ha b hb
theorem insP_perm (b : Bool) (M : List Bs) (p : Bs) : (insP b M p).Perm (M ++ [p]) := by
  unfold insP
  generalize insAt b M p M.length = k
  have h1 : (M.take k ++ p :: M.drop k).Perm (p :: (M.take k ++ M.drop k)) := List.perm_middle
  rw [List.take_append_drop] at h1
  exact h1.trans (List.perm_append_comm (l₁ := [p]) (l₂ := M))
theorem qAt_yes (R : List Rul) (L : List Bs) : ∀ j, j ≤ L.length → inOrd (qAt true R L j) ∧ (qAt true R L j).Perm ((L.take j).filter (stays R))
  | 0, _ => by simp [qAt]
  | j + 1, h => by
    obtain ⟨h1, h2⟩ := qAt_yes R L j (by omega)
    rw [qAt, stays_next R L j (by omega)]
    unfold qStep
    split
    · exact ⟨insP_ord _ _ h1, (insP_perm _ _ _).trans (h2.append_right _)⟩
    · exact ⟨h1, by simpa using h2⟩
theorem qAt_sort (R : List Rul) (L : List Bs) : qAt true R L L.length = (L.filter (stays R)).mergeSort (fun x y => decide (x ≤ y)) := by
  obtain ⟨h1, h2⟩ := qAt_yes R L L.length (Nat.le_refl _)
  rw [List.take_length] at h2
  refine List.Perm.eq_of_pairwise (le := fun x y => x ≤ y) ?_ h1 ?_ (h2.trans (List.mergeSort_perm _ _).symm)
  · intro a b _ _ hab hba
    exact List.le_antisymm hab hba
  · have := List.pairwise_mergeSort (le := fun x y : Bs => decide (x ≤ y)) (fun a b c h1 h2 => by simp at *; exact List.le_trans h1 h2) (fun a b => by simp; exact List.le_total a b) (L.filter (stays R))
    simpa using this
theorem qQueryOf_ok (q : Bs) (R : List Rul) (hq : q.length ≤ 100000) (hm : R.length ≤ 200000) : FnOk Tryz.prog 114 [str q, rulSl R] (str (queryK q R)) := by
  have h := qQueryOf_walk q R hq hm
  have e : (if qAt (decide (((6, []) : Rul) ∈ R)) R (Lib.split q [38]) (Lib.split q [38]).length = [] then [] else 63 :: Lib.join (qAt (decide (((6, []) : Rul) ∈ R)) R (Lib.split q [38]) (Lib.split q [38]).length) [38]) = queryK q R := by
    unfold queryK partsK
    by_cases h6 : ((6, []) : Rul) ∈ R
    · rw [decide_eq_true h6, qAt_sort, if_pos h6]
      generalize (Lib.split q [38]).filter (stays R) = F
      by_cases hF : F = []
      · rw [if_pos hF, if_pos (by rw [hF]; simp)]
      · rw [if_neg hF, if_neg (fun e => hF (by have := congrArg List.length e; simpa using this))]
    · rw [decide_eq_false h6, qAt_no R _ _ (Nat.le_refl _), List.take_length, if_neg h6]
  rw [e] at h
  exact h
end Go.Proofs.YtglonkenckigiaaGreatDoor
