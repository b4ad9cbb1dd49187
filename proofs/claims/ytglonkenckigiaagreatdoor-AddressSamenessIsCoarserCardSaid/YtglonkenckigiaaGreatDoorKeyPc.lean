/-
  ADDRESS: queries of keys by rules. (WITH run_drawN.)
-/
import Derived.Test.YtglonkenckigiaaGreatDoorKeyV
import Derived.Test.YtglonkenckigiaaGreatDoorRow
import Derived.Test.YtglonkenckigiaaGreatDoorAdM
set_option linter.unusedSimpArgs false
set_option linter.unusedVariables false
namespace Go.Proofs.YtglonkenckigiaaGreatDoor
open Go.Lw Go.RowKit
set_option maxRecDepth 100000
set_option maxHeartbeats 1000000

/-- A part of a query stays: its name isn't one of those that are left out. -/
def stays (L : List Rul) (p : Bs) : Bool := decide ((Lib.cut p [61]).1 = []) || !decide ((7, (Lib.cut p [61]).1) ∈ L)
/-- The parts that stay. -/
def partsK (q : Bs) (L : List Rul) : List Bs := (Lib.split q [38]).filter (stays L)
/-- The query of a key, with its ?, or nothing. -/
def queryK (q : Bs) (L : List Rul) : Bs :=
  if partsK q L = [] then [] else 63 :: Lib.join (if (6, []) ∈ L then (partsK q L).mergeSort (fun x y => decide (x ≤ y)) else partsK q L) [38]
theorem sort_ok (L : List Bs) (hne : L ≠ []) (hl : L.length ≤ 1000000) : FnMem Tryz.prog 147 [.os 100001 L.length] (ownS 100001 L) (.d (.tup [])) (ownS 100001 (L.mergeSort fun x y => decide (x ≤ y))) :=
  rowFn 100001 L (L.mergeSort fun x y => decide (x ≤ y)) hne (by simp) (by kernel_rfl) fun blk cap w hH hb => Tryz.slices_Sort_string blk 0 cap L w hH hb (by omega)
theorem parts_le (q : Bs) (L : List Rul) : (partsK q L).length ≤ q.length + 2 ∧ ∀ x ∈ partsK q L, x.length ≤ q.length := by
  refine ⟨Nat.le_trans (List.length_filter_le _ _) (split_len q 38), fun x hx => ?_⟩
  have := split_each 38 q x (List.mem_filter.1 hx).1
  omega
/-- The parts that stay, of the first ones. -/
theorem stays_next (R : List Rul) (L : List Bs) (j : Nat) (h : j < L.length) : (L.take (j + 1)).filter (stays R) = (L.take j).filter (stays R) ++ (if stays R (L[j]?.getD []) = true then [L[j]?.getD []] else []) := by
  rw [List.take_add_one, List.getElem?_eq_getElem h, List.filter_append]
  congr 1
  simp only [Option.toList_some, Option.getD_some, List.filter_cons, List.filter_nil]
theorem queryOf_ok (q : Bs) (R : List Rul) (hq : q.length ≤ 100000) (hm : R.length ≤ 200000) : FnOk Tryz.prog 108 [str q, rulSl R] (str (queryK q R)) := by
  refine fnOk Tryz.func108 rfl (by kernel_rfl) Tryz.ntmps108 _ rfl (by simp) fun C hc => ?_
  have hS := split_ok q 38 (by omega)
  have hlen := split_len q 38
  have heach := split_each 38 q
  obtain ⟨p1, p2⟩ := parts_le q R
  have h6 := has_ok R 6 [] hm
  unfold queryK
  unfold partsK at p1 p2 ⊢
  generalize Lib.split q [38] = L at hS hlen heach p1 p2 ⊢
  have e6 : ∀ x : List Bs, (if ((6, []) : Rul) ∈ R then x.mergeSort (fun x y => decide (x ≤ y)) else x) = if decide (((6, []) : Rul) ∈ R) = true then x.mergeSort (fun x y => decide (x ≤ y)) else x := by intro x; simp
  rw [e6]
  clear e6
  generalize decide ((6, []) ∈ R) = b6 at h6 ⊢
  repeat' (first | (first | refine Ya ?_ | refine Yb ?_ | refine Yc ?_ | refine Yd ?_ | refine Ye ?_ | refine Yf ?_ | refine Yg ?_ | refine Yh ?_ | refine Yi ?_ | refine Yj ?_ | refine Yk ?_ | refine Yl ?_ | refine Ym ?_ | refine Yn ?_ | refine Yo ?_ | refine Yp (h := ?_) | refine Yq ?_ | refine Yr ?_ | refine Ys ?_ | refine Zr hc (hk := ?_) | refine Zd hc (hk := ?_) | (refine Zc (ht := fun hb => ?_) (hf := fun hb => ?_) <;> (try simp at hb)) | fail) | (first | refine Zw hc (hf := by exact hS) (hk := ?_) | refine Zq hc (hf := by exact hS) (hk := ?_) | refine Zo hc (hk := ?_) | refine Zu hc (hk := ?_) | refine Ze hc (hk := ?_) | refine Zn hc (hk := ?_) | fail))
  refine ewp_loop (fun x : Nat => ⟨[(1, .d (rulSl R)), (6, .os 40000 ((L.take x).filter (stays R)).length), (14, .d (strSl L)), (15, .d (int L.length)), (16, .d (int x))], [(40000, .own 9 1 (true, [str []]) (((L.take x).filter (stays R)).map fun y => [str y]))]⟩) (fun x => x ≤ L.length) (fun x => L.length - x) 0 (by simp) (run_keepB [(6, none, 40000, 9, [str []])] [1, 6, 14, 15, 16] [40000] (by simp; exact Gives.mk) (by simp; exact Gives.mk) (by simp; exact Gives.mk)) ?_
  intro j hj1
  by_cases hlt : j < L.length
  · have hel := heach _ (List.getElem_mem hlt)
    have hC := cut_ok (L[j]?.getD []) 61 (by rw [List.getElem?_eq_getElem hlt]; simp only [Option.getD_some]; omega)
    have h7 := has_ok R 7 (Lib.cut (L[j]?.getD []) [61]).1 hm
    have e := stays_next R L j hlt
    have hst : stays R (L[j]?.getD []) = (decide ((Lib.cut (L[j]?.getD []) [61]).1 = []) || !decide ((7, (Lib.cut (L[j]?.getD []) [61]).1) ∈ R)) := rfl
    have hFl : ((L.take j).filter (stays R)).length ≤ j := Nat.le_trans (List.length_filter_le _ _) (by simp; omega)
    generalize (L.take j).filter (stays R) = F at e hFl ⊢
    generalize decide ((7, (Lib.cut (L[j]?.getD []) [61]).1) ∈ R) = b7 at h7 hst
    generalize Lib.cut (L[j]?.getD []) [61] = z at hC h7 hst
    repeat' (first | (first | refine Ya ?_ | refine Yb ?_ | refine Yc ?_ | refine Yd ?_ | refine Ye ?_ | refine Yf ?_ | refine Yg ?_ | refine Yh ?_ | refine Yi ?_ | refine Yj ?_ | refine Yk ?_ | refine Yl ?_ | refine Ym ?_ | refine Yn ?_ | refine Yo ?_ | refine Yp (h := ?_) | refine Yq ?_ | refine Yr ?_ | refine Ys ?_ | refine Zr hc (hk := ?_) | refine Zd hc (hk := ?_) | (refine Zc (ht := fun hb => ?_) (hf := fun hb => ?_) <;> (try simp at hb)) | fail) | (first | refine Zw hc (hf := by first | exact hC | exact h7) (hk := ?_) | refine Zq hc (hf := by first | exact hC | exact h7) (hk := ?_) | refine Zo hc (hk := ?_) | refine Zu hc (hk := ?_) | refine Ze hc (hk := ?_) | refine Zn hc (hk := ?_) | fail))
    all_goals try (exfalso; omega)
    · have hs1 : stays R (L[j]?.getD []) = true := by rw [hst]; rcases hb with h | h <;> simp [h]
      rw [if_pos hs1] at e
      exact ⟨j + 1, by omega, by omega, run_back [1, 6, 14, 15, 16] [40000] (by simp; exact Gives.mk) (by simp; exact Gives.mk) (by rw [e]; simp)⟩
    · have hs1 : stays R (L[j]?.getD []) = false := by rw [hst]; simp [hb.1, hb.2]
      rw [if_neg (by simp [hs1]), List.append_nil] at e
      exact ⟨j + 1, by omega, by omega, run_back [1, 6, 14, 15, 16] [40000] (by simp; exact Gives.mk) (by simp; exact Gives.mk) (by rw [e]; simp)⟩
  · obtain rfl : j = L.length := by omega
    rw [List.take_length]
    generalize L.filter (stays R) = F at p1 p2 ⊢
    by_cases hF : F = []
    · rw [if_pos hF]
      subst hF
      repeat' (first | (first | refine Ya ?_ | refine Yb ?_ | refine Yc ?_ | refine Yd ?_ | refine Ye ?_ | refine Yf ?_ | refine Yg ?_ | refine Yh ?_ | refine Yi ?_ | refine Yj ?_ | refine Yk ?_ | refine Yl ?_ | refine Ym ?_ | refine Yn ?_ | refine Yo ?_ | refine Yp (h := ?_) | refine Yq ?_ | refine Yr ?_ | refine Ys ?_ | refine Zr hc (hk := ?_) | refine Zd hc (hk := ?_) | (refine Zc (ht := fun hb => ?_) (hf := fun hb => ?_) <;> (try simp at hb)) | fail) | (first | refine Zw hc (hf := by exact h6) (hk := ?_) | refine Zq hc (hf := by exact h6) (hk := ?_) | refine Zo hc (hk := ?_) | refine Zu hc (hk := ?_) | refine Ze hc (hk := ?_) | refine Zn hc (hk := ?_) | fail))
      all_goals (refine Zl hc (hr := ?_))
      all_goals simp
    · rw [if_neg hF]
      have hF1 : 1 ≤ F.length := List.length_pos_iff.2 hF
      cases b6
      · rw [if_neg (by simp)]
        have hjl := join_le 38 q.length F p2
        have hmu : F.length * (q.length + 1) ≤ 100002 * 100001 := Nat.mul_le_mul (by omega) (by omega)
        have hjl2 : (Lib.join F [38]).length ≤ 10000300002 := by omega
        clear hjl hmu
        have hJ := join_ok F [38] (by omega) (by omega)
        rw [show strSl F = D.sl F.length fun i => [str (F[i]?.getD [])] by simp [strSl]] at hJ
        repeat' (first | (first | refine Ya ?_ | refine Yb ?_ | refine Yc ?_ | refine Yd ?_ | refine Ye ?_ | refine Yf ?_ | refine Yg ?_ | refine Yh ?_ | refine Yi ?_ | refine Yj ?_ | refine Yk ?_ | refine Yl ?_ | refine Ym ?_ | refine Yn ?_ | refine Yo ?_ | refine Yp (h := ?_) | refine Yq ?_ | refine Yr ?_ | refine Ys ?_ | refine Zr hc (hk := ?_) | refine Zd hc (hk := ?_) | (refine Zc (ht := fun hb => ?_) (hf := fun hb => ?_) <;> (try simp at hb)) | fail) | (first | refine Zw hc (hf := by first | exact h6 | exact hJ) (hk := ?_) | refine Zq hc (hf := by first | exact h6 | exact hJ) (hk := ?_) | refine Zo hc (hk := ?_) | refine Zu hc (hk := ?_) | refine Ze hc (hk := ?_) | refine Zn hc (hk := ?_) | fail))
        all_goals try contradiction
        all_goals (refine Zl hc (hr := ?_))
        all_goals simp
      · rw [if_pos rfl]
        have hSo := sort_ok F hF (by omega)
        have hml : (F.mergeSort fun x y => decide (x ≤ y)).length = F.length := by simp
        have hmm : ∀ x ∈ (F.mergeSort fun x y => decide (x ≤ y)), x.length ≤ q.length := fun x hx => p2 x (List.mem_mergeSort.1 hx)
        generalize (F.mergeSort fun x y => decide (x ≤ y)) = G at hSo hml hmm ⊢
        have hjl := join_le 38 q.length G hmm
        have hmu : G.length * (q.length + 1) ≤ 100002 * 100001 := Nat.mul_le_mul (by omega) (by omega)
        have hjl2 : (Lib.join G [38]).length ≤ 10000300002 := by omega
        clear hjl hmu
        have hJ := join_ok G [38] (by omega) (by omega)
        rw [show strSl G = D.sl G.length fun i => [str (G[i]?.getD [])] by simp [strSl]] at hJ
        repeat' (first | (first | refine Ya ?_ | refine Yb ?_ | refine Yc ?_ | refine Yd ?_ | refine Ye ?_ | refine Yf ?_ | refine Yg ?_ | refine Yh ?_ | refine Yi ?_ | refine Yj ?_ | refine Yk ?_ | refine Yl ?_ | refine Ym ?_ | refine Yn ?_ | refine Yo ?_ | refine Yp (h := ?_) | refine Yq ?_ | refine Yr ?_ | refine Ys ?_ | refine Zr hc (hk := ?_) | refine Zd hc (hk := ?_) | (refine Zc (ht := fun hb => ?_) (hf := fun hb => ?_) <;> (try simp at hb)) | fail) | (first | refine run_callM ([(100001, 40000)]) (hSo) hc (by simp; exact Gives.mk) (by simp; exact Gives.mk) (by simp; exact Gives.mk) (by simp; exact Gives.mk) (by simp; exact Gives.mk) rfl (by simp; exact Gives.mk) (by simp; exact Gives.mk) rfl (by simp) (by simp) (by simp; exact Gives.mk) (by simp; exact Gives.mk) ?_ | fail) | (first | refine Zw hc (hf := by exact h6) (hk := ?_) | refine Zq hc (hf := by exact h6) (hk := ?_) | refine Zo hc (hk := ?_) | refine Zu hc (hk := ?_) | refine Ze hc (hk := ?_) | refine Zn hc (hk := ?_) | fail))
        all_goals try contradiction
        rw [← hml]
        repeat' (first | (first | refine Ya ?_ | refine Yb ?_ | refine Yc ?_ | refine Yd ?_ | refine Ye ?_ | refine Yf ?_ | refine Yg ?_ | refine Yh ?_ | refine Yi ?_ | refine Yj ?_ | refine Yk ?_ | refine Yl ?_ | refine Ym ?_ | refine Yn ?_ | refine Yo ?_ | refine Yp (h := ?_) | refine Yq ?_ | refine Yr ?_ | refine Ys ?_ | refine Zr hc (hk := ?_) | refine Zd hc (hk := ?_) | (refine Zc (ht := fun hb => ?_) (hf := fun hb => ?_) <;> (try simp at hb)) | fail) | (first | refine Zw hc (hf := by exact hJ) (hk := ?_) | refine Zq hc (hf := by exact hJ) (hk := ?_) | refine Zo hc (hk := ?_) | refine Zu hc (hk := ?_) | refine Ze hc (hk := ?_) | refine Zn hc (hk := ?_) | fail))
        all_goals (refine Zl hc (hr := ?_))
        all_goals simp
end Go.Proofs.YtglonkenckigiaaGreatDoor
/-
  ADDRESS: keys by rules (program): key. (WITH run_drawN.)
-/
set_option linter.unusedSimpArgs false
set_option linter.unusedVariables false
namespace Go.Proofs.YtglonkenckigiaaGreatDoor
open Go.Lw Go.RowKit
set_option maxRecDepth 100000
set_option maxHeartbeats 2000000

def wwwB : Bs := [119, 119, 119, 46]
/-- The host of a key. -/
def hostR (n : Adr) (R : List Rul) : Bs := if wwwB <+: n.host ∧ (2, []) ∈ R then n.host.drop 4 else n.host
/-- The key, by rules, of an address in its normal form. -/
def keyR (n : Adr) (R : List Rul) : Bs := turnP (hostR n R) 46 44 ++ pPart n ++ [41] ++ (if n.scheme = httpsB ∧ (1, []) ∉ R then [115] else []) ++ pathK n.path R ++ (if n.hasQ = true then queryK n.query R else [])
theorem stripS_len : ∀ p : Bs, (stripS p).length ≤ p.length := by
  intro p
  rw [stripS]
  split
  · have := stripS_len (p.take (p.length - 1))
    simp at this
    omega
  · exact Nat.le_refl _
termination_by p => p.length
decreasing_by simp; omega
theorem pathK_len (p : Bs) (R : List Rul) : (pathK p R).length ≤ p.length := by
  have h1 : ∀ x : Bs, (noTail R x).length ≤ x.length := fun x => by unfold noTail; split <;> simp <;> omega
  have h2 : ∀ c : Prop, ∀ [Decidable c], (if c then smallP p else p).length = p.length := fun c _ => by split <;> simp [smallP_len]
  unfold pathK
  have h3 := h1 (if ((3, []) : Rul) ∈ R then smallP p else p)
  have h4 := h2 (((3, []) : Rul) ∈ R)
  have h5 := stripS_len (noTail R (if ((3, []) : Rul) ∈ R then smallP p else p))
  split <;> omega
theorem queryK_len (q : Bs) (R : List Rul) (hq : q.length ≤ 100000) : (queryK q R).length ≤ 10000300003 := by
  obtain ⟨p1, p2⟩ := parts_le q R
  unfold queryK
  generalize partsK q R = F at p1 p2 ⊢
  split
  · simp
  · have h : ∀ G : List Bs, G.length = F.length → (∀ x ∈ G, x.length ≤ q.length) → (Lib.join G [38]).length ≤ 10000300002 := fun G h1 h2 => by
      have hjl := join_le 38 q.length G h2
      have hmu : G.length * (q.length + 1) ≤ 100002 * 100001 := Nat.mul_le_mul (by omega) (by omega)
      omega
    split
    · have := h (F.mergeSort fun x y => decide (x ≤ y)) (by simp) (fun x hx => p2 x (List.mem_mergeSort.1 hx))
      simp only [List.length_cons]
      omega
    · have := h F rfl p2
      simp only [List.length_cons]
      omega
theorem key_ok (a : Adr) (R : List Rul) (h : chkC a = 0) (hpc : pcOk (normA a).path) (hm : R.length ≤ 200000) : FnOk Tryz.prog 67 [adrD a, rulSl R] (str (keyR (normA a) R)) := by
  refine fnOk Tryz.func67 rfl (by kernel_rfl) Tryz.ntmps67 _ rfl (by simp) fun C hc => ?_
  have hN := normal_is a h
  obtain ⟨k1, k2, k3, k4⟩ := norm_parts h
  generalize normA a = n at hN k1 k2 k3 k4 hpc ⊢
  have hCP := cutPrefix_ok n.host wwwB
  have hP := pathOf_ok n.path R (by omega) hm hpc
  have hPl := pathK_len n.path R
  have hQ := queryOf_ok n.query R (by omega) hm
  have hQl := queryK_len n.query R (by omega)
  have h1 := has_ok R 1 [] hm
  have h2 := has_ok R 2 [] hm
  have eH : hostR n R = if decide (wwwB <+: n.host) = true ∧ decide (((2, []) : Rul) ∈ R) = true then cutP n.host wwwB else n.host := by
    unfold hostR
    by_cases hw : wwwB <+: n.host
    · rw [show cutP n.host wwwB = n.host.drop 4 by unfold cutP; rw [if_pos hw]; rfl]
      simp [hw]
    · simp [hw]
  have eS : (if n.scheme = httpsB ∧ (1, []) ∉ R then [115] else []) = (if n.scheme = httpsB ∧ decide (((1, []) : Rul) ∈ R) = false then [115] else ([] : Bs)) := by simp
  unfold keyR
  rw [eH, eS]
  clear eH eS
  have hcl := cutP_len n.host wwwB
  generalize cutP n.host wwwB = ch at hCP hcl ⊢
  generalize decide (wwwB <+: n.host) = bw at hCP ⊢
  generalize decide (((2, []) : Rul) ∈ R) = b2 at h2 ⊢
  generalize decide (((1, []) : Rul) ∈ R) = b1 at h1 ⊢
  generalize pathK n.path R = pk at hP hPl ⊢
  generalize queryK n.query R = qk at hQ hQl ⊢
  unfold pPart
  unfold wwwB at hCP
  have hXl : (if bw = true ∧ b2 = true then ch else n.host).length ≤ 2001 := by split <;> omega
  have hT := turned_ok (if bw = true ∧ b2 = true then ch else n.host) 46 44 (by omega)
  have htl := turn_len (if bw = true ∧ b2 = true then ch else n.host) 46 44
  generalize turnP (if bw = true ∧ b2 = true then ch else n.host) 46 44 = tu at hT htl ⊢
  rw [← htl] at hXl
  clear htl
  cases bw <;> cases b2 <;> cases b1 <;> simp only [and_true, and_false, true_and, false_and, if_true, if_false, Bool.false_eq_true, reduceCtorEq] at hT <;> refine id ?_
  all_goals repeat' (first | (first | refine Ya ?_ | refine Yb ?_ | refine Yc ?_ | refine Yd ?_ | refine Ye ?_ | refine Yf ?_ | refine Yg ?_ | refine Yh ?_ | refine Yi ?_ | refine Yj ?_ | refine Yk ?_ | refine Yl ?_ | refine Ym ?_ | refine Yn ?_ | refine Yo ?_ | refine Yp (h := ?_) | refine Yq ?_ | refine Yr ?_ | refine Ys ?_ | refine Zr hc (hk := ?_) | refine Zd hc (hk := ?_) | (refine Zc (ht := fun hb => ?_) (hf := fun hb => ?_) <;> (try simp at hb)) | fail) | (first | refine Zw hc (hf := by first | exact hN | exact hCP | exact h2 | exact hT | exact h1 | exact hP | exact hQ) (hk := ?_) | refine Zq hc (hf := by first | exact hN | exact hCP | exact h2 | exact hT | exact h1 | exact hP | exact hQ) (hk := ?_) | refine Zo hc (hk := ?_) | refine Zu hc (hk := ?_) | refine Ze hc (hk := ?_) | refine Zn hc (hk := ?_) | fail))
  all_goals try contradiction
  all_goals (refine Zl hc (hr := ?_))
  all_goals simp_all [httpsB]
end Go.Proofs.YtglonkenckigiaaGreatDoor
/-
  ADDRESS: rows are whole behind each %. 
-/
set_option linter.unusedSimpArgs false
set_option linter.unusedVariables false
namespace Go.Proofs.YtglonkenckigiaaGreatDoor
open Go.Lw Go.RowKit
set_option maxRecDepth 100000
set_option maxHeartbeats 1000000

theorem hex_pc {c : UInt8} (h : isHexB c = true) : c ≠ 37 := by
  rintro rfl
  revert h
  decide
theorem pcOk_row (w : Bs) : ∀ s : Bs, isRow w s → pcOk s
  | [], _ => fun i hi => by simp at hi
  | c :: r, h => by
    unfold isRow at h
    rw [rowE.eq_def] at h
    simp only at h
    by_cases h1 : w.contains c = true
    · rw [if_pos h1] at h; simp at h
    rw [if_neg h1] at h
    by_cases h2 : badB c = true
    · rw [if_pos h2] at h; simp at h
    rw [if_neg h2] at h
    by_cases h3 : c = 37
    · rw [if_pos h3] at h
      match r, h with
      | [], h => simp at h
      | [_], h => simp at h
      | a :: b :: r2, h =>
        simp only at h
        by_cases h4 : isHexB a = true ∧ isHexB b = true
        · rw [if_pos h4] at h
          have hr : isRow w r2 := by
            unfold isRow
            have e1 := congrArg Prod.fst h
            have e2 := congrArg Prod.snd h
            simp at e1 e2
            exact Prod.ext (by simp; omega) e2
          have ih := pcOk_row w r2 hr
          intro i hi hc
          match i, hi, hc with
          | 0, hi, hc => simp
          | 1, hi, hc => exact absurd (by simpa using hc) (hex_pc h4.1)
          | 2, hi, hc => exact absurd (by simpa using hc) (hex_pc h4.2)
          | i + 3, hi, hc =>
            have := ih i (by simp at hi; omega) (by simpa using hc)
            simp
            omega
        · rw [if_neg h4] at h; simp at h
    · rw [if_neg h3] at h
      have hr : isRow w r := by
        unfold isRow
        have e1 := congrArg Prod.fst h
        have e2 := congrArg Prod.snd h
        simp at e1 e2
        exact Prod.ext (by simp; omega) e2
      have ih := pcOk_row w r hr
      intro i hi hc
      match i, hi, hc with
      | 0, hi, hc => exact absurd (by simpa using hc) h3
      | i + 1, hi, hc =>
        have := ih i (by simp at hi; omega) (by simpa using hc)
        simp
        omega
theorem pcOk_norm {a : Adr} (h : chkC (normA a) = 0) : pcOk (normA a).path := pcOk_row [63] _ ((chk_iff _).1 h).1.path
end Go.Proofs.YtglonkenckigiaaGreatDoor
