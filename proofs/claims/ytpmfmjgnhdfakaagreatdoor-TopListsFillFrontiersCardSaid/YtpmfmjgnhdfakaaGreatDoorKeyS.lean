/-
  CHAPTER 1's REFERENCE: keys without rules. (WITH run_drawN.)
-/
import Derived.Test.YtpmfmjgnhdfakaaGreatDoorKeyB
import Derived.Test.YtpmfmjgnhdfakaaGreatDoorQO
set_option linter.unusedSimpArgs false
set_option linter.unusedVariables false
namespace Go.Proofs.YtpmfmjgnhdfakaaGreatDoor
open Go.Lw Go.RowKit
set_option maxRecDepth 100000
set_option maxHeartbeats 2000000

theorem says0_ok (k : Int) (n : Bs) : FnOk Tryz.prog 172 [noL, int k, str n] (tru false) := by
  refine fnOk Tryz.func172 rfl (by kernel_rfl) Tryz.ntmps172 _ rfl (by simp) fun C hc => ?_
  repeat' (first | (first | refine Ya ?_ | refine Yb ?_ | refine Yc ?_ | refine Yd ?_ | refine Ye ?_ | refine Yf ?_ | refine Yg ?_ | refine Yh ?_ | refine Yi ?_ | refine Yj ?_ | refine Yk ?_ | refine Yl ?_ | refine Ym ?_ | refine Yn ?_ | refine Yo ?_ | refine Yp (h := ?_) | refine Yq ?_ | refine Yr ?_ | refine Ys ?_ | refine Zr hc (hk := ?_) | refine Zd hc (hk := ?_) | (refine Zc (ht := fun hb => ?_) (hf := fun hb => ?_) <;> (try simp at hb)) | fail) | (first | refine Zo hc (hk := ?_) | refine Zu hc (hk := ?_) | refine Ze hc (hk := ?_) | refine Zn hc (hk := ?_) | fail))
  refine ewp_loop (fun _ : Unit => ⟨[(0, .d noL), (7, .d (int 0))], []⟩) (fun _ => True) (fun _ => 0) () trivial (run_keep [0, 7] [] (by simp; exact Gives.mk) (by simp; exact Gives.mk)) ?_
  rintro _ _
  repeat' (first | (first | refine Ya ?_ | refine Yb ?_ | refine Yc ?_ | refine Yd ?_ | refine Ye ?_ | refine Yf ?_ | refine Yg ?_ | refine Yh ?_ | refine Yi ?_ | refine Yj ?_ | refine Yk ?_ | refine Yl ?_ | refine Ym ?_ | refine Yn ?_ | refine Yo ?_ | refine Yp (h := ?_) | refine Yq ?_ | refine Yr ?_ | refine Ys ?_ | refine Zr hc (hk := ?_) | refine Zd hc (hk := ?_) | (refine Zc (ht := fun hb => ?_) (hf := fun hb => ?_) <;> (try simp at hb)) | fail) | (first | refine Zo hc (hk := ?_) | refine Zu hc (hk := ?_) | refine Ze hc (hk := ?_) | refine Zn hc (hk := ?_) | fail))
  all_goals try contradiction
  (refine Zl hc (hr := ?_))
  simp
/-- Words, each with a sign behind it. -/
def signed (c : UInt8) (M : List Bs) (r : Nat) : Bs := ((M.take r).map fun x => x ++ [c]).flatten
theorem signed_next (c : UInt8) (M : List Bs) (r : Nat) (h : r < M.length) : signed c M (r + 1) = signed c M r ++ M[r]?.getD [] ++ [c] := by
  unfold signed
  rw [List.take_add_one, List.getElem?_eq_getElem h, List.map_append, List.flatten_append]
  simp
theorem signed_join (c : UInt8) : ∀ M : List Bs, M ≠ [] → signed c M (M.length - 1) ++ M[M.length - 1]?.getD [] = Lib.join M [c]
  | [], h => absurd rfl h
  | [x], _ => by rw [Lib.join_one]; simp [signed]
  | x :: y :: L, _ => by
    have ih := signed_join c (y :: L) (by simp)
    rw [join_two, ← ih]
    simp [signed]
theorem signed_len (c : UInt8) (M : List Bs) (r : Nat) (h : r < M.length) : (signed c M r ++ M[r]?.getD []).length ≤ (Lib.join M [c]).length := by
  have key : ∀ r, r < M.length → (signed c M r).length + (M[r]?.getD []).length + 1 = wt (M.take (r + 1)) := by
    intro r
    induction r with
    | zero =>
      intro h0
      rw [List.take_add_one, List.getElem?_eq_getElem h0]
      simp [signed, wt]
    | succ r ih =>
      intro h1
      have := ih (by omega)
      rw [signed_next c M r (by omega), List.take_add_one, wt_app, ← this, List.getElem?_eq_getElem h1]
      simp only [List.length_append, List.length_cons, List.length_nil, Option.toList_some, wt, List.map_cons, List.map_nil, List.sum_cons, List.sum_nil, Option.getD_some]
      omega
  have h1 := key r h
  have h2 := wt_take M (r + 1)
  have h3 := join_wtc c M (fun e => by rw [e] at h; simp at h)
  simp only [List.length_append]
  omega
theorem qTurned_ok (s : Bs) (hs : s.length ≤ 100000) : FnOk Tryz.prog 173 [str s] (str (turnP s 46 44)) := by
  refine fnOk Tryz.func173 rfl (by kernel_rfl) Tryz.ntmps173 _ rfl (by simp) fun C hc => ?_
  have hS := split_ok s 46 (by omega)
  have hne := split_ne 46 s
  have htl := turn_len s 46 44
  have hlen := split_len s 46
  unfold turnP at htl ⊢
  generalize Lib.split s [46] = L at hS hne htl hlen ⊢
  have hL1 : 1 ≤ L.length := List.length_pos_iff.2 hne
  have hrev : ∀ r, r < L.length → L.reverse[r]?.getD [] = L[L.length - 1 - r]?.getD [] := fun r hr => by rw [List.getElem?_reverse hr]
  have hMl : L.reverse.length = L.length := by simp
  have hMn : L.reverse ≠ [] := by simpa using hne
  have hj := signed_join 44 L.reverse hMn
  have hsl := signed_len 44 L.reverse
  have hsn := signed_next 44 L.reverse
  rw [hMl] at hj hsl hsn
  generalize L.reverse = M at hrev hMl hMn hj hsl hsn htl ⊢
  repeat' (first | (first | refine Ya ?_ | refine Yb ?_ | refine Yc ?_ | refine Yd ?_ | refine Ye ?_ | refine Yf ?_ | refine Yg ?_ | refine Yh ?_ | refine Yi ?_ | refine Yj ?_ | refine Yk ?_ | refine Yl ?_ | refine Ym ?_ | refine Yn ?_ | refine Yo ?_ | refine Yp (h := ?_) | refine Yq ?_ | refine Yr ?_ | refine Ys ?_ | refine Zr hc (hk := ?_) | refine Zd hc (hk := ?_) | (refine Zc (ht := fun hb => ?_) (hf := fun hb => ?_) <;> (try simp at hb)) | fail) | (first | refine Zw hc (hf := by exact hS) (hk := ?_) | refine Zq hc (hf := by exact hS) (hk := ?_) | refine Zo hc (hk := ?_) | refine Zu hc (hk := ?_) | refine Ze hc (hk := ?_) | refine Zn hc (hk := ?_) | fail))
  refine ewp_loop (fun m : Nat => ⟨[(3, .d (strSl L)), (4, .d (str (if 0 < m then signed 44 M (L.length - m) else Lib.join M [44]))), (5, .d (int ((m : Int) - 1)))], []⟩) (fun m => m ≤ L.length) (fun m => m) L.length (by simp) (run_back [3, 4, 5] [] (by simp; exact Gives.mk) (by simp; exact Gives.mk) (by rw [if_pos (by omega)]; simp [signed])) ?_
  intro m hm
  by_cases hlt : 0 < m
  · have h1 := hrev (L.length - m) (by omega)
    have h2 := hsl (L.length - m) (by omega)
    have h3 := hsn (L.length - m) (by omega)
    rw [show L.length - 1 - (L.length - m) = m - 1 by omega] at h1
    rw [h1] at h2 h3
    rw [if_pos hlt]
    simp only [List.length_append] at h2
    repeat' (first | (first | refine Ya ?_ | refine Yb ?_ | refine Yc ?_ | refine Yd ?_ | refine Ye ?_ | refine Yf ?_ | refine Yg ?_ | refine Yh ?_ | refine Yi ?_ | refine Yj ?_ | refine Yk ?_ | refine Yl ?_ | refine Ym ?_ | refine Yn ?_ | refine Yo ?_ | refine Yp (h := ?_) | refine Yq ?_ | refine Yr ?_ | refine Ys ?_ | refine Zr hc (hk := ?_) | refine Zd hc (hk := ?_) | (refine Zc (ht := fun hb => ?_) (hf := fun hb => ?_) <;> (try simp at hb)) | fail) | (first | refine Zo hc (hk := ?_) | refine Zu hc (hk := ?_) | refine Ze hc (hk := ?_) | refine Zn hc (hk := ?_) | fail))
    all_goals try (exfalso; omega)
    · refine ⟨m - 1, by omega, by omega, run_back [3, 4, 5] [] (by simp; exact Gives.mk) (by simp; exact Gives.mk) ?_⟩
      rw [if_pos (by omega), show L.length - (m - 1) = L.length - m + 1 by omega, h3]
      simp
      omega
    · have em : m = 1 := by omega
      subst em
      refine ⟨0, by omega, by omega, run_back [3, 4, 5] [] (by simp; exact Gives.mk) (by simp; exact Gives.mk) ?_⟩
      rw [if_neg (by omega), ← hj, ← h1]
      simp
  · obtain rfl : m = 0 := by omega
    rw [if_neg (by omega)]
    repeat' (first | (first | refine Ya ?_ | refine Yb ?_ | refine Yc ?_ | refine Yd ?_ | refine Ye ?_ | refine Yf ?_ | refine Yg ?_ | refine Yh ?_ | refine Yi ?_ | refine Yj ?_ | refine Yk ?_ | refine Yl ?_ | refine Ym ?_ | refine Yn ?_ | refine Yo ?_ | refine Yp (h := ?_) | refine Yq ?_ | refine Yr ?_ | refine Ys ?_ | refine Zr hc (hk := ?_) | refine Zd hc (hk := ?_) | (refine Zc (ht := fun hb => ?_) (hf := fun hb => ?_) <;> (try simp at hb)) | fail) | (first | refine Zo hc (hk := ?_) | refine Zu hc (hk := ?_) | refine Ze hc (hk := ?_) | refine Zn hc (hk := ?_) | fail))
    all_goals try (exfalso; omega)
    (refine Zl hc (hr := ?_))
    simp
theorem qPathOf0_ok (p : Bs) (hp : p.length ≤ 100000) : FnOk Tryz.prog 174 [str p, noL] (str p) := by
  refine fnOk Tryz.func174 rfl (by kernel_rfl) Tryz.ntmps174 _ rfl (by simp) fun C hc => ?_
  have hL := lastByte_ok p 47 (by omega)
  obtain ⟨k, hk, hkl⟩ := last_at p 47
  rw [hk] at hL
  repeat' (first | (first | refine Ya ?_ | refine Yb ?_ | refine Yc ?_ | refine Yd ?_ | refine Ye ?_ | refine Yf ?_ | refine Yg ?_ | refine Yh ?_ | refine Yi ?_ | refine Yj ?_ | refine Yk ?_ | refine Yl ?_ | refine Ym ?_ | refine Yn ?_ | refine Yo ?_ | refine Yp (h := ?_) | refine Yq ?_ | refine Yr ?_ | refine Ys ?_ | refine Zr hc (hk := ?_) | refine Zd hc (hk := ?_) | (refine Zc (ht := fun hb => ?_) (hf := fun hb => ?_) <;> (try simp at hb)) | fail) | (first | refine Zw hc (hf := by first | exact hL | exact says0_ok _ _) (hk := ?_) | refine Zq hc (hf := by first | exact hL | exact says0_ok _ _) (hk := ?_) | refine Zo hc (hk := ?_) | refine Zu hc (hk := ?_) | refine Ze hc (hk := ?_) | refine Zn hc (hk := ?_) | fail))
  all_goals try contradiction
  refine ewp_loop (fun _ : Unit => ⟨[(0, .d (str p)), (1, .d noL)], []⟩) (fun _ => True) (fun _ => 0) () trivial (run_keep [0, 1] [] (by simp; exact Gives.mk) (by simp; exact Gives.mk)) ?_
  rintro _ _
  repeat' (first | (first | refine Ya ?_ | refine Yb ?_ | refine Yc ?_ | refine Yd ?_ | refine Ye ?_ | refine Yf ?_ | refine Yg ?_ | refine Yh ?_ | refine Yi ?_ | refine Yj ?_ | refine Yk ?_ | refine Yl ?_ | refine Ym ?_ | refine Yn ?_ | refine Yo ?_ | refine Yp (h := ?_) | refine Yq ?_ | refine Yr ?_ | refine Ys ?_ | refine Zr hc (hk := ?_) | refine Zd hc (hk := ?_) | (refine Zc (ht := fun hb => ?_) (hf := fun hb => ?_) <;> (try simp at hb)) | fail) | (first | refine Zw hc (hf := by exact says0_ok _ _) (hk := ?_) | refine Zq hc (hf := by exact says0_ok _ _) (hk := ?_) | refine Zo hc (hk := ?_) | refine Zu hc (hk := ?_) | refine Ze hc (hk := ?_) | refine Zn hc (hk := ?_) | fail))
  all_goals try contradiction
  (refine Zl hc (hr := ?_))
  simp
end Go.Proofs.YtpmfmjgnhdfakaaGreatDoor
/-
  CHAPTER 1's REFERENCE: the query of a key without rules. (WITH run_drawN.)
-/
set_option linter.unusedSimpArgs false
set_option linter.unusedVariables false
namespace Go.Proofs.YtpmfmjgnhdfakaaGreatDoor
open Go.Lw Go.RowKit
set_option maxRecDepth 100000
set_option maxHeartbeats 2000000

abbrev partsD (M : List Bs) : D := .sl M.length fun i => [str (M[i]?.getD [])]
theorem qQueryOf0_ok (q : Bs) (hq : q.length ≤ 100000) : FnOk Tryz.prog 175 [str q, noL] (str (63 :: q)) := by
  refine fnOk Tryz.func175 rfl (by kernel_rfl) Tryz.ntmps175 _ rfl (by simp) fun C hc => ?_
  have hS := split_ok q 38 (by omega)
  have hne := split_ne 38 q
  have hlen := split_len q 38
  have heach := split_each 38 q
  have hj := join_split 38 q
  have hJ := join_ok (Lib.split q [38]) [38] (by omega) (by rw [hj]; omega)
  rw [hj] at hJ
  generalize Lib.split q [38] = L at hS hJ hne hlen heach
  have hL1 : 1 ≤ L.length := List.length_pos_iff.2 hne
  have eJ : strSl L = D.sl L.length fun i => [str (L[i]?.getD [])] := by simp [strSl]
  rw [eJ] at hJ
  repeat' (first | (first | refine Ya ?_ | refine Yb ?_ | refine Yc ?_ | refine Yd ?_ | refine Ye ?_ | refine Yf ?_ | refine Yg ?_ | refine Yh ?_ | refine Yi ?_ | refine Yj ?_ | refine Yk ?_ | refine Yl ?_ | refine Ym ?_ | refine Yn ?_ | refine Yo ?_ | refine Yp (h := ?_) | refine Yq ?_ | refine Yr ?_ | refine Ys ?_ | refine Zr hc (hk := ?_) | refine Zd hc (hk := ?_) | (refine Zc (ht := fun hb => ?_) (hf := fun hb => ?_) <;> (try simp at hb)) | fail) | (first | refine Zw hc (hf := by exact hS) (hk := ?_) | refine Zq hc (hf := by exact hS) (hk := ?_) | refine Zo hc (hk := ?_) | refine Zu hc (hk := ?_) | refine Ze hc (hk := ?_) | refine Zn hc (hk := ?_) | fail))
  refine ewp_loop (fun x : Nat × List Bs => ⟨[(1, .d noL), (5, .d (strSl L)), (6, .d (partsD x.2)), (7, .d (int x.1))], []⟩) (fun x => x.1 ≤ L.length ∧ x.2 = L.take x.1) (fun x => L.length - x.1) (0, []) (by simp) (le_births [(6, none, 40000, 9, [str []])] (by simp; exact Gives.mk) (le_seal 40000 hc (by simp; exact Gives.mk) (by simp) (run_back [1, 5, 6, 7] [] (by simp; exact Gives.mk) (by simp; exact Gives.mk) (by simp)))) ?_
  rintro ⟨j, M⟩ ⟨hj1, hM⟩
  simp only at hj1 hM ⊢
  by_cases hlt : j < L.length
  · have hel := heach _ (List.getElem_mem hlt)
    have hC := cut_ok (L[j]?.getD []) 61 (by rw [List.getElem?_eq_getElem hlt]; simp only [Option.getD_some]; omega)
    generalize Lib.cut (L[j]?.getD []) [61] = z at hC
    have htl : M.length = j := by rw [hM]; simp; omega
    have hM1 : M ++ [L[j]?.getD []] = L.take (j + 1) := by rw [hM, List.take_add_one, List.getElem?_eq_getElem hlt]; rfl
    repeat' (first | (first | refine Ya ?_ | refine Yb ?_ | refine Yc ?_ | refine Yd ?_ | refine Ye ?_ | refine Yf ?_ | refine Yg ?_ | refine Yh ?_ | refine Yi ?_ | refine Yj ?_ | refine Yk ?_ | refine Yl ?_ | refine Ym ?_ | refine Yn ?_ | refine Yo ?_ | refine Yp (h := ?_) | refine Yq ?_ | refine Yr ?_ | refine Ys ?_ | refine Zr hc (hk := ?_) | refine Zd hc (hk := ?_) | (refine Zc (ht := fun hb => ?_) (hf := fun hb => ?_) <;> (try simp at hb)) | fail) | (first | refine Zw hc (hf := by first | exact hC | exact says0_ok _ _) (hk := ?_) | refine Zq hc (hf := by first | exact hC | exact says0_ok _ _) (hk := ?_) | refine Zo hc (hk := ?_) | refine Zu hc (hk := ?_) | refine Ze hc (hk := ?_) | refine Zn hc (hk := ?_) | fail))
    all_goals try (exfalso; omega)
    all_goals try contradiction
    refine ewp_loop (fun _ : Unit => ⟨[(1, .d noL), (5, .d (strSl L)), (6, .d (partsD M)), (7, .d (int j)), (11, .d (int M.length))], []⟩) (fun _ => True) (fun _ => 0) () trivial (run_keep [1, 5, 6, 7, 11] [] (by simp; exact Gives.mk) (by simp; exact Gives.mk)) ?_
    rintro _ _
    repeat' (first | (first | refine Ya ?_ | refine Yb ?_ | refine Yc ?_ | refine Yd ?_ | refine Ye ?_ | refine Yf ?_ | refine Yg ?_ | refine Yh ?_ | refine Yi ?_ | refine Yj ?_ | refine Yk ?_ | refine Yl ?_ | refine Ym ?_ | refine Yn ?_ | refine Yo ?_ | refine Yp (h := ?_) | refine Yq ?_ | refine Yr ?_ | refine Ys ?_ | refine Zr hc (hk := ?_) | refine Zd hc (hk := ?_) | (refine Zc (ht := fun hb => ?_) (hf := fun hb => ?_) <;> (try simp at hb)) | fail) | (first | refine Zw hc (hf := by first | exact hC | exact says0_ok _ _) (hk := ?_) | refine Zq hc (hf := by first | exact hC | exact says0_ok _ _) (hk := ?_) | refine Zo hc (hk := ?_) | refine Zu hc (hk := ?_) | refine Ze hc (hk := ?_) | refine Zn hc (hk := ?_) | fail))
    all_goals try (exfalso; omega)
    all_goals try contradiction
    refine ⟨(j + 1, M ++ [L[j]?.getD []]), ⟨by simp only; omega, hM1⟩, by simp only; omega, le_seal 63 hc (by simp; exact Gives.mk) (by simp) (run_back [1, 5, 6, 7] [] (by simp; exact Gives.mk) (by simp; exact Gives.mk) ?_)⟩
    have e1 : List.take (M.length + 1) (List.take M.length (List.map (fun i => [str (M[i]?.getD [])]) (List.range M.length)) ++ [[str (L[j]?.getD [])]]) = (M ++ [L[j]?.getD []]).map (fun x => [str x]) := by
      rw [map_range_getD M [] (fun x => [str x])]
      rw [List.take_of_length_le (by simp), List.take_of_length_le (by simp)]
      simp
    rw [e1]
    have e2 : (fun i : Nat => ((M ++ [L[j]?.getD []]).map (fun x => [str x]))[i]?.getD [D.lit (Value.string (bs []))]) = fun i : Nat => [str ((M ++ [L[j]?.getD []])[i]?.getD [])] := by
      funext i
      rw [List.getElem?_map]
      cases (M ++ [L[j]?.getD []])[i]? <;> rfl
    rw [e2]
    simp only [partsD, List.length_append, List.length_cons, List.length_nil]
    rfl
  · obtain rfl : j = L.length := by omega
    rw [List.take_length] at hM
    subst hM
    repeat' (first | (first | refine Ya ?_ | refine Yb ?_ | refine Yc ?_ | refine Yd ?_ | refine Ye ?_ | refine Yf ?_ | refine Yg ?_ | refine Yh ?_ | refine Yi ?_ | refine Yj ?_ | refine Yk ?_ | refine Yl ?_ | refine Ym ?_ | refine Yn ?_ | refine Yo ?_ | refine Yp (h := ?_) | refine Yq ?_ | refine Yr ?_ | refine Ys ?_ | refine Zr hc (hk := ?_) | refine Zd hc (hk := ?_) | (refine Zc (ht := fun hb => ?_) (hf := fun hb => ?_) <;> (try simp at hb)) | fail) | (first | refine Zw hc (hf := by first | exact says0_ok _ _ | exact hJ) (hk := ?_) | refine Zq hc (hf := by first | exact says0_ok _ _ | exact hJ) (hk := ?_) | refine Zo hc (hk := ?_) | refine Zu hc (hk := ?_) | refine Ze hc (hk := ?_) | refine Zn hc (hk := ?_) | fail))
    all_goals try (exfalso; omega)
    all_goals try contradiction
    (refine Zl hc (hr := ?_))
    simp
end Go.Proofs.YtpmfmjgnhdfakaaGreatDoor
