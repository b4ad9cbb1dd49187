/-
  ADDRESS: queries of keys by rules. (WITH run_drawN.)
-/
import Derived.Test.YtpmfmjgnhdfakaaGreatDoorKeyV
import Derived.Test.YtpmfmjgnhdfakaaGreatDoorRow
import Derived.Test.YtpmfmjgnhdfakaaGreatDoorAdM
import Derived.Test.YtpmfmjgnhdfakaaGreatDoorQO
import Derived.Shelf.Strings.IndexAnyAll
import Derived.Test.YtpmfmjgnhdfakaaGreatDoorLibS
import Derived.Test.YtpmfmjgnhdfakaaGreatDoorLb
set_option linter.unusedSimpArgs false
set_option linter.unusedVariables false
namespace Go.Proofs.YtpmfmjgnhdfakaaGreatDoor
open Go.Lw Go.RowKit
set_option maxRecDepth 100000
set_option maxHeartbeats 1000000

/-- A part of a query stays: its name isn't one of those that are left out. -/
def stays (L : List Rul) (p : Bs) : Bool := decide ((Lib.cut p [61]).1 = []) || !decide ((7, (Lib.cut p [61]).1) ∈ L)
/-- The parts that stay. -/
def partsK (q : Bs) (L : List Rul) : List Bs := (Lib.split q [38]).filter (stays L)
/-- The query of a key, with its ?, or nothing. -/
def queryK (q : Bs) (L : List Rul) : Bs :=
  if partsK q L = [] then [] else 63 :: Lib.join (if (6, []) ∈ L then (partsK q L).mergeSort (fun x y => decide (x ≤ y)) else partsK q L) [38]
theorem sort_ok (L : List Bs) (hne : L ≠ []) (hl : L.length ≤ 1000000) : FnMem Tryz.prog 11 [.os 100001 L.length] (ownS 100001 L) (.d (.tup [])) (ownS 100001 (L.mergeSort fun x y => decide (x ≤ y))) :=
  rowFn 100001 L (L.mergeSort fun x y => decide (x ≤ y)) hne (by simp) (by kernel_rfl) fun blk cap w hH hb => Tryz.slices_Sort_string blk 0 cap L w hH hb (by omega)
theorem parts_le (q : Bs) (L : List Rul) : (partsK q L).length ≤ q.length + 2 ∧ ∀ x ∈ partsK q L, x.length ≤ q.length := by
  refine ⟨Nat.le_trans (List.length_filter_le _ _) (split_len q 38), fun x hx => ?_⟩
  have := split_each 38 q x (List.mem_filter.1 hx).1
  omega
/-- The parts that stay, of the first ones. -/
theorem stays_next (R : List Rul) (L : List Bs) (j : Nat) (h : j < L.length) : (L.take (j + 1)).filter (stays R) = (L.take j).filter (stays R) ++ (if stays R (L[j]?.getD []) = true then [L[j]?.getD []] else []) := by
  rw [List.take_add_one, List.getElem?_eq_getElem h, List.filter_append]
  congr 1
  simp only [Option.toList_some, Option.getD_some, List.filter_cons, List.filter_nil]
theorem queryOf_ok (q : Bs) (R : List Rul) (hq : q.length ≤ 100000) (hm : R.length ≤ 200000) : FnOk Tryz.prog 61 [str q, rulSl R] (str (queryK q R)) := by
  refine fnOk Tryz.func61 rfl (by kernel_rfl) Tryz.ntmps61 _ rfl (by simp) fun C hc => ?_
  have hS := split_ok q 38 (by omega)
  have hlen := split_len q 38
  have heach := split_each 38 q
  obtain ⟨p1, p2⟩ := parts_le q R
  have h6 := has_ok R 6 [] hm
  unfold queryK
  unfold partsK at p1 p2 ⊢
  generalize Lib.split q [38] = L at hS hlen heach p1 p2 ⊢
  have e6 : ∀ x : List Bs, (if ((6, []) : Rul) ∈ R then x.mergeSort (fun x y => decide (x ≤ y)) else x) = if decide (((6, []) : Rul) ∈ R) = true then x.mergeSort (fun x y => decide (x ≤ y)) else x := by intro x; simp
  rw [e6]
  clear e6
  generalize decide ((6, []) ∈ R) = b6 at h6 ⊢
  repeat' (first | (first | refine Ya ?_ | refine Yb ?_ | refine Yc ?_ | refine Yd ?_ | refine Ye ?_ | refine Yf ?_ | refine Yg ?_ | refine Yh ?_ | refine Yi ?_ | refine Yj ?_ | refine Yk ?_ | refine Yl ?_ | refine Ym ?_ | refine Yn ?_ | refine Yo ?_ | refine Yp (h := ?_) | refine Yq ?_ | refine Yr ?_ | refine Ys ?_ | refine Zr hc (hk := ?_) | refine Zd hc (hk := ?_) | (refine Zc (ht := fun hb => ?_) (hf := fun hb => ?_) <;> (try simp at hb)) | fail) | (first | refine Zw hc (hf := by exact hS) (hk := ?_) | refine Zq hc (hf := by exact hS) (hk := ?_) | refine Zo hc (hk := ?_) | refine Zu hc (hk := ?_) | refine Ze hc (hk := ?_) | refine Zn hc (hk := ?_) | fail))
  refine ewp_loop (fun x : Nat => ⟨[(1, .d (rulSl R)), (6, .os 40000 ((L.take x).filter (stays R)).length), (14, .d (strSl L)), (15, .d (int L.length)), (16, .d (int x))], [(40000, .own 9 1 (true, [str []]) (((L.take x).filter (stays R)).map fun y => [str y]))]⟩) (fun x => x ≤ L.length) (fun x => L.length - x) 0 (by simp) (run_keepB [(6, none, 40000, 9, [str []])] [1, 6, 14, 15, 16] [40000] (by simp; exact Gives.mk) (by simp; exact Gives.mk) (by simp; exact Gives.mk)) ?_
  intro j hj1
  by_cases hlt : j < L.length
  · have hel := heach _ (List.getElem_mem hlt)
    have hC := cut_ok (L[j]?.getD []) 61 (by rw [List.getElem?_eq_getElem hlt]; simp only [Option.getD_some]; omega)
    have h7 := has_ok R 7 (Lib.cut (L[j]?.getD []) [61]).1 hm
    have e := stays_next R L j hlt
    have hst : stays R (L[j]?.getD []) = (decide ((Lib.cut (L[j]?.getD []) [61]).1 = []) || !decide ((7, (Lib.cut (L[j]?.getD []) [61]).1) ∈ R)) := rfl
    have hFl : ((L.take j).filter (stays R)).length ≤ j := Nat.le_trans (List.length_filter_le _ _) (by simp; omega)
    generalize (L.take j).filter (stays R) = F at e hFl ⊢
    generalize decide ((7, (Lib.cut (L[j]?.getD []) [61]).1) ∈ R) = b7 at h7 hst
    generalize Lib.cut (L[j]?.getD []) [61] = z at hC h7 hst
    repeat' (first | (first | refine Ya ?_ | refine Yb ?_ | refine Yc ?_ | refine Yd ?_ | refine Ye ?_ | refine Yf ?_ | refine Yg ?_ | refine Yh ?_ | refine Yi ?_ | refine Yj ?_ | refine Yk ?_ | refine Yl ?_ | refine Ym ?_ | refine Yn ?_ | refine Yo ?_ | refine Yp (h := ?_) | refine Yq ?_ | refine Yr ?_ | refine Ys ?_ | refine Zr hc (hk := ?_) | refine Zd hc (hk := ?_) | (refine Zc (ht := fun hb => ?_) (hf := fun hb => ?_) <;> (try simp at hb)) | fail) | (first | refine Zw hc (hf := by first | exact hC | exact h7) (hk := ?_) | refine Zq hc (hf := by first | exact hC | exact h7) (hk := ?_) | refine Zo hc (hk := ?_) | refine Zu hc (hk := ?_) | refine Ze hc (hk := ?_) | refine Zn hc (hk := ?_) | fail))
    all_goals try (exfalso; omega)
    · have hs1 : stays R (L[j]?.getD []) = true := by rw [hst]; rcases hb with h | h <;> simp [h]
      rw [if_pos hs1] at e
      exact ⟨j + 1, by omega, by omega, run_back [1, 6, 14, 15, 16] [40000] (by simp; exact Gives.mk) (by simp; exact Gives.mk) (by rw [e]; simp)⟩
    · have hs1 : stays R (L[j]?.getD []) = false := by rw [hst]; simp [hb.1, hb.2]
      rw [if_neg (by simp [hs1]), List.append_nil] at e
      exact ⟨j + 1, by omega, by omega, run_back [1, 6, 14, 15, 16] [40000] (by simp; exact Gives.mk) (by simp; exact Gives.mk) (by rw [e]; simp)⟩
  · obtain rfl : j = L.length := by omega
    rw [List.take_length]
    generalize L.filter (stays R) = F at p1 p2 ⊢
    by_cases hF : F = []
    · rw [if_pos hF]
      subst hF
      repeat' (first | (first | refine Ya ?_ | refine Yb ?_ | refine Yc ?_ | refine Yd ?_ | refine Ye ?_ | refine Yf ?_ | refine Yg ?_ | refine Yh ?_ | refine Yi ?_ | refine Yj ?_ | refine Yk ?_ | refine Yl ?_ | refine Ym ?_ | refine Yn ?_ | refine Yo ?_ | refine Yp (h := ?_) | refine Yq ?_ | refine Yr ?_ | refine Ys ?_ | refine Zr hc (hk := ?_) | refine Zd hc (hk := ?_) | (refine Zc (ht := fun hb => ?_) (hf := fun hb => ?_) <;> (try simp at hb)) | fail) | (first | refine Zw hc (hf := by exact h6) (hk := ?_) | refine Zq hc (hf := by exact h6) (hk := ?_) | refine Zo hc (hk := ?_) | refine Zu hc (hk := ?_) | refine Ze hc (hk := ?_) | refine Zn hc (hk := ?_) | fail))
      all_goals (refine Zl hc (hr := ?_))
      all_goals simp
    · rw [if_neg hF]
      have hF1 : 1 ≤ F.length := List.length_pos_iff.2 hF
      cases b6
      · rw [if_neg (by simp)]
        have hjl := join_le 38 q.length F p2
        have hmu : F.length * (q.length + 1) ≤ 100002 * 100001 := Nat.mul_le_mul (by omega) (by omega)
        have hjl2 : (Lib.join F [38]).length ≤ 10000300002 := by omega
        clear hjl hmu
        have hJ := join_ok F [38] (by omega) (by omega)
        rw [show strSl F = D.sl F.length fun i => [str (F[i]?.getD [])] by simp [strSl]] at hJ
        repeat' (first | (first | refine Ya ?_ | refine Yb ?_ | refine Yc ?_ | refine Yd ?_ | refine Ye ?_ | refine Yf ?_ | refine Yg ?_ | refine Yh ?_ | refine Yi ?_ | refine Yj ?_ | refine Yk ?_ | refine Yl ?_ | refine Ym ?_ | refine Yn ?_ | refine Yo ?_ | refine Yp (h := ?_) | refine Yq ?_ | refine Yr ?_ | refine Ys ?_ | refine Zr hc (hk := ?_) | refine Zd hc (hk := ?_) | (refine Zc (ht := fun hb => ?_) (hf := fun hb => ?_) <;> (try simp at hb)) | fail) | (first | refine Zw hc (hf := by first | exact h6 | exact hJ) (hk := ?_) | refine Zq hc (hf := by first | exact h6 | exact hJ) (hk := ?_) | refine Zo hc (hk := ?_) | refine Zu hc (hk := ?_) | refine Ze hc (hk := ?_) | refine Zn hc (hk := ?_) | fail))
        all_goals try contradiction
        all_goals (refine Zl hc (hr := ?_))
        all_goals simp
      · rw [if_pos rfl]
        have hSo := sort_ok F hF (by omega)
        have hml : (F.mergeSort fun x y => decide (x ≤ y)).length = F.length := by simp
        have hmm : ∀ x ∈ (F.mergeSort fun x y => decide (x ≤ y)), x.length ≤ q.length := fun x hx => p2 x (List.mem_mergeSort.1 hx)
        generalize (F.mergeSort fun x y => decide (x ≤ y)) = G at hSo hml hmm ⊢
        have hjl := join_le 38 q.length G hmm
        have hmu : G.length * (q.length + 1) ≤ 100002 * 100001 := Nat.mul_le_mul (by omega) (by omega)
        have hjl2 : (Lib.join G [38]).length ≤ 10000300002 := by omega
        clear hjl hmu
        have hJ := join_ok G [38] (by omega) (by omega)
        rw [show strSl G = D.sl G.length fun i => [str (G[i]?.getD [])] by simp [strSl]] at hJ
        repeat' (first | (first | refine Ya ?_ | refine Yb ?_ | refine Yc ?_ | refine Yd ?_ | refine Ye ?_ | refine Yf ?_ | refine Yg ?_ | refine Yh ?_ | refine Yi ?_ | refine Yj ?_ | refine Yk ?_ | refine Yl ?_ | refine Ym ?_ | refine Yn ?_ | refine Yo ?_ | refine Yp (h := ?_) | refine Yq ?_ | refine Yr ?_ | refine Ys ?_ | refine Zr hc (hk := ?_) | refine Zd hc (hk := ?_) | (refine Zc (ht := fun hb => ?_) (hf := fun hb => ?_) <;> (try simp at hb)) | fail) | (first | refine run_callM ([(100001, 40000)]) (hSo) hc (by simp; exact Gives.mk) (by simp; exact Gives.mk) (by simp; exact Gives.mk) (by simp; exact Gives.mk) (by simp; exact Gives.mk) rfl (by simp; exact Gives.mk) (by simp; exact Gives.mk) rfl (by simp) (by simp) (by simp; exact Gives.mk) (by simp; exact Gives.mk) ?_ | fail) | (first | refine Zw hc (hf := by exact h6) (hk := ?_) | refine Zq hc (hf := by exact h6) (hk := ?_) | refine Zo hc (hk := ?_) | refine Zu hc (hk := ?_) | refine Ze hc (hk := ?_) | refine Zn hc (hk := ?_) | fail))
        all_goals try contradiction
        rw [← hml]
        repeat' (first | (first | refine Ya ?_ | refine Yb ?_ | refine Yc ?_ | refine Yd ?_ | refine Ye ?_ | refine Yf ?_ | refine Yg ?_ | refine Yh ?_ | refine Yi ?_ | refine Yj ?_ | refine Yk ?_ | refine Yl ?_ | refine Ym ?_ | refine Yn ?_ | refine Yo ?_ | refine Yp (h := ?_) | refine Yq ?_ | refine Yr ?_ | refine Ys ?_ | refine Zr hc (hk := ?_) | refine Zd hc (hk := ?_) | (refine Zc (ht := fun hb => ?_) (hf := fun hb => ?_) <;> (try simp at hb)) | fail) | (first | refine Zw hc (hf := by exact hJ) (hk := ?_) | refine Zq hc (hf := by exact hJ) (hk := ?_) | refine Zo hc (hk := ?_) | refine Zu hc (hk := ?_) | refine Ze hc (hk := ?_) | refine Zn hc (hk := ?_) | fail))
        all_goals (refine Zl hc (hr := ?_))
        all_goals simp
end Go.Proofs.YtpmfmjgnhdfakaaGreatDoor
/-
  ADDRESS: keys by rules (program): key. (WITH run_drawN.)
-/
set_option linter.unusedSimpArgs false
set_option linter.unusedVariables false
namespace Go.Proofs.YtpmfmjgnhdfakaaGreatDoor
open Go.Lw Go.RowKit
set_option maxRecDepth 100000
set_option maxHeartbeats 2000000

def wwwB : Bs := [119, 119, 119, 46]
/-- The host of a key. -/
def hostR (n : Adr) (R : List Rul) : Bs := if wwwB <+: n.host ∧ (2, []) ∈ R then n.host.drop 4 else n.host
/-- The key, by rules, of an address in its normal form. -/
def keyR (n : Adr) (R : List Rul) : Bs := turnP (hostR n R) 46 44 ++ pPart n ++ [41] ++ (if n.scheme = httpsB ∧ (1, []) ∉ R then [115] else []) ++ pathK n.path R ++ (if n.hasQ = true then queryK n.query R else [])
theorem stripS_len : ∀ p : Bs, (stripS p).length ≤ p.length := by
  intro p
  rw [stripS]
  split
  · have := stripS_len (p.take (p.length - 1))
    simp at this
    omega
  · exact Nat.le_refl _
termination_by p => p.length
decreasing_by simp; omega
theorem pathK_len (p : Bs) (R : List Rul) : (pathK p R).length ≤ p.length := by
  have h1 : ∀ x : Bs, (noTail R x).length ≤ x.length := fun x => by unfold noTail; split <;> simp <;> omega
  have h2 : ∀ c : Prop, ∀ [Decidable c], (if c then smallP p else p).length = p.length := fun c _ => by split <;> simp [smallP_len]
  unfold pathK
  have h3 := h1 (if ((3, []) : Rul) ∈ R then smallP p else p)
  have h4 := h2 (((3, []) : Rul) ∈ R)
  have h5 := stripS_len (noTail R (if ((3, []) : Rul) ∈ R then smallP p else p))
  split <;> omega
theorem queryK_len (q : Bs) (R : List Rul) (hq : q.length ≤ 100000) : (queryK q R).length ≤ 10000300003 := by
  obtain ⟨p1, p2⟩ := parts_le q R
  unfold queryK
  generalize partsK q R = F at p1 p2 ⊢
  split
  · simp
  · have h : ∀ G : List Bs, G.length = F.length → (∀ x ∈ G, x.length ≤ q.length) → (Lib.join G [38]).length ≤ 10000300002 := fun G h1 h2 => by
      have hjl := join_le 38 q.length G h2
      have hmu : G.length * (q.length + 1) ≤ 100002 * 100001 := Nat.mul_le_mul (by omega) (by omega)
      omega
    split
    · have := h (F.mergeSort fun x y => decide (x ≤ y)) (by simp) (fun x hx => p2 x (List.mem_mergeSort.1 hx))
      simp only [List.length_cons]
      omega
    · have := h F rfl p2
      simp only [List.length_cons]
      omega
theorem key_ok (a : Adr) (R : List Rul) (h : chkC a = 0) (hpc : pcOk (normA a).path) (hm : R.length ≤ 200000) : FnOk Tryz.prog 23 [adrD a, rulSl R] (str (keyR (normA a) R)) := by
  refine fnOk Tryz.func23 rfl (by kernel_rfl) Tryz.ntmps23 _ rfl (by simp) fun C hc => ?_
  have hN := normal_is a h
  obtain ⟨k1, k2, k3, k4⟩ := norm_parts h
  generalize normA a = n at hN k1 k2 k3 k4 hpc ⊢
  have hCP := cutPrefix_ok n.host wwwB
  have hP := pathOf_ok n.path R (by omega) hm hpc
  have hPl := pathK_len n.path R
  have hQ := queryOf_ok n.query R (by omega) hm
  have hQl := queryK_len n.query R (by omega)
  have h1 := has_ok R 1 [] hm
  have h2 := has_ok R 2 [] hm
  have eH : hostR n R = if decide (wwwB <+: n.host) = true ∧ decide (((2, []) : Rul) ∈ R) = true then cutP n.host wwwB else n.host := by
    unfold hostR
    by_cases hw : wwwB <+: n.host
    · rw [show cutP n.host wwwB = n.host.drop 4 by unfold cutP; rw [if_pos hw]; rfl]
      simp [hw]
    · simp [hw]
  have eS : (if n.scheme = httpsB ∧ (1, []) ∉ R then [115] else []) = (if n.scheme = httpsB ∧ decide (((1, []) : Rul) ∈ R) = false then [115] else ([] : Bs)) := by simp
  unfold keyR
  rw [eH, eS]
  clear eH eS
  have hcl := cutP_len n.host wwwB
  generalize cutP n.host wwwB = ch at hCP hcl ⊢
  generalize decide (wwwB <+: n.host) = bw at hCP ⊢
  generalize decide (((2, []) : Rul) ∈ R) = b2 at h2 ⊢
  generalize decide (((1, []) : Rul) ∈ R) = b1 at h1 ⊢
  generalize pathK n.path R = pk at hP hPl ⊢
  generalize queryK n.query R = qk at hQ hQl ⊢
  unfold pPart
  unfold wwwB at hCP
  have hXl : (if bw = true ∧ b2 = true then ch else n.host).length ≤ 2001 := by split <;> omega
  have hT := turned_ok (if bw = true ∧ b2 = true then ch else n.host) 46 44 (by omega)
  have htl := turn_len (if bw = true ∧ b2 = true then ch else n.host) 46 44
  generalize turnP (if bw = true ∧ b2 = true then ch else n.host) 46 44 = tu at hT htl ⊢
  rw [← htl] at hXl
  clear htl
  cases bw <;> cases b2 <;> cases b1 <;> simp only [and_true, and_false, true_and, false_and, if_true, if_false, Bool.false_eq_true, reduceCtorEq] at hT <;> refine id ?_
  all_goals repeat' (first | (first | refine Ya ?_ | refine Yb ?_ | refine Yc ?_ | refine Yd ?_ | refine Ye ?_ | refine Yf ?_ | refine Yg ?_ | refine Yh ?_ | refine Yi ?_ | refine Yj ?_ | refine Yk ?_ | refine Yl ?_ | refine Ym ?_ | refine Yn ?_ | refine Yo ?_ | refine Yp (h := ?_) | refine Yq ?_ | refine Yr ?_ | refine Ys ?_ | refine Zr hc (hk := ?_) | refine Zd hc (hk := ?_) | (refine Zc (ht := fun hb => ?_) (hf := fun hb => ?_) <;> (try simp at hb)) | fail) | (first | refine Zw hc (hf := by first | exact hN | exact hCP | exact h2 | exact hT | exact h1 | exact hP | exact hQ) (hk := ?_) | refine Zq hc (hf := by first | exact hN | exact hCP | exact h2 | exact hT | exact h1 | exact hP | exact hQ) (hk := ?_) | refine Zo hc (hk := ?_) | refine Zu hc (hk := ?_) | refine Ze hc (hk := ?_) | refine Zn hc (hk := ?_) | fail))
  all_goals try contradiction
  all_goals (refine Zl hc (hr := ?_))
  all_goals simp_all [httpsB]
end Go.Proofs.YtpmfmjgnhdfakaaGreatDoor
/-
  ADDRESS: rows are whole behind each %. 
-/
set_option linter.unusedSimpArgs false
set_option linter.unusedVariables false
namespace Go.Proofs.YtpmfmjgnhdfakaaGreatDoor
open Go.Lw Go.RowKit
set_option maxRecDepth 100000
set_option maxHeartbeats 1000000

theorem hex_pc {c : UInt8} (h : isHexB c = true) : c ≠ 37 := by
  rintro rfl
  revert h
  decide
theorem pcOk_row (w : Bs) : ∀ s : Bs, isRow w s → pcOk s
  | [], _ => fun i hi => by simp at hi
  | c :: r, h => by
    unfold isRow at h
    rw [rowE.eq_def] at h
    simp only at h
    by_cases h1 : w.contains c = true
    · rw [if_pos h1] at h; simp at h
    rw [if_neg h1] at h
    by_cases h2 : badB c = true
    · rw [if_pos h2] at h; simp at h
    rw [if_neg h2] at h
    by_cases h3 : c = 37
    · rw [if_pos h3] at h
      match r, h with
      | [], h => simp at h
      | [_], h => simp at h
      | a :: b :: r2, h =>
        simp only at h
        by_cases h4 : isHexB a = true ∧ isHexB b = true
        · rw [if_pos h4] at h
          have hr : isRow w r2 := by
            unfold isRow
            have e1 := congrArg Prod.fst h
            have e2 := congrArg Prod.snd h
            simp at e1 e2
            exact Prod.ext (by simp; omega) e2
          have ih := pcOk_row w r2 hr
          intro i hi hc
          match i, hi, hc with
          | 0, hi, hc => simp
          | 1, hi, hc => exact absurd (by simpa using hc) (hex_pc h4.1)
          | 2, hi, hc => exact absurd (by simpa using hc) (hex_pc h4.2)
          | i + 3, hi, hc =>
            have := ih i (by simp at hi; omega) (by simpa using hc)
            simp
            omega
        · rw [if_neg h4] at h; simp at h
    · rw [if_neg h3] at h
      have hr : isRow w r := by
        unfold isRow
        have e1 := congrArg Prod.fst h
        have e2 := congrArg Prod.snd h
        simp at e1 e2
        exact Prod.ext (by simp; omega) e2
      have ih := pcOk_row w r hr
      intro i hi hc
      match i, hi, hc with
      | 0, hi, hc => exact absurd (by simpa using hc) h3
      | i + 1, hi, hc =>
        have := ih i (by simp at hi; omega) (by simpa using hc)
        simp
        omega
theorem pcOk_norm {a : Adr} (h : chkC (normA a) = 0) : pcOk (normA a).path := pcOk_row [63] _ ((chk_iff _).1 h).1.path
end Go.Proofs.YtpmfmjgnhdfakaaGreatDoor
/-
  CHAPTER 1's REFERENCE: the check of a rule of sameness. (WITH run_drawN.)
-/
set_option linter.unusedSimpArgs false
set_option linter.unusedVariables false
namespace Go.Proofs.YtpmfmjgnhdfakaaGreatDoor
open Go.Lw Go.RowKit
set_option maxRecDepth 100000
set_option maxHeartbeats 1000000

/-- A byte that no name of a rule has. -/
def badN (c : UInt8) : Bool := decide (c ∈ ([47, 63, 38, 61, 37] : Bs)) || isUp c
def namedR (x : Rul) : Bool := decide (x.1 = 5) || decide (x.1 = 7)
/-- The fault of one rule. -/
def ruleE (x : Rul) : Nat := if x.1 < 1 ∨ 7 < x.1 then 4 else if decide (x.2 = []) = namedR x ∨ ¬ isRow [] x.2 then 3 else if x.2.any badN = true then 3 else 0
end Go.Proofs.YtpmfmjgnhdfakaaGreatDoor
/-
  CHAPTER 1's REFERENCE: CheckSameness. (WITH run_drawN.)
-/
set_option linter.unusedSimpArgs false
set_option linter.unusedVariables false
namespace Go.Proofs.YtpmfmjgnhdfakaaGreatDoor
open Go.Lw Go.RowKit
set_option maxRecDepth 100000
set_option maxHeartbeats 1000000

/-- A rule isn't behind the one ahead of it. -/
def ordBad (a b : Rul) : Prop := b.1 < a.1 ∨ (b.1 = a.1 ∧ (Op.bytesLess b.2 a.2 = true ∨ b.2 = a.2))
instance (a b : Rul) : Decidable (ordBad a b) := by unfold ordBad; infer_instance
abbrev rulAt (R : List Rul) (j : Nat) : Rul := R[j]?.getD (0, [])
def sameGo (R : List Rul) (j : Nat) : Nat :=
  if j < R.length then (if ruleE (rulAt R j) ≠ 0 then ruleE (rulAt R j) else if 0 < j ∧ ordBad (rulAt R (j - 1)) (rulAt R j) then 8 else sameGo R (j + 1)) else 0
termination_by R.length - j
/-- The fault of rules. -/
def sameC (R : List Rul) : Nat := if 50 < R.length then 2 else sameGo R 0
end Go.Proofs.YtpmfmjgnhdfakaaGreatDoor
/-
  strings.ContainsAny at a string of any length, in a set of ASCII bytes. (WITH run_drawN.)
-/
set_option linter.unusedSimpArgs false
set_option linter.unusedVariables false
namespace Go.Proofs.YtpmfmjgnhdfakaaGreatDoor
open Go.Lw Go.RowKit Go.Shelf
set_option maxRecDepth 1000000
set_option maxHeartbeats 8000000

section
variable {P : Program} {ρ : Ren}
/-- The set as it lies behind its making. -/
abbrev setW (ρ : Ren) (cs : List UInt8) (w : World) : World := (w.alloc (.cells (Lib.setCells cs) (ρ.t 116))).alloc (.cells (Lib.setCells cs) (ρ.t 116))
theorem far_any (L : Lays.n153 P ρ) (hv : ∀ w, (zeroValue (ρ.t 116)).run P w = .ok (.agg (Array.replicate 256 (.bool false))) w) (hi : (P.info? (ρ.t 116)).map (·.size) = some 256) (s chars : ByteArray) (w : World) (h2 : 2 ≤ chars.size) (h8 : 8 < s.size)
    (hs : s.size ≤ 9223372036854775807) (hcs : chars.size < 4294967281) (hascii : ∀ (j : Nat) b, chars.data.toList[j]? = some b → b.toNat < 128) :
    Calls P (ρ.f 153) #[.string s, .string chars] w fun e w' => e = .returned (.int .i64 (Lib.indexAny s.data.toList chars.data.toList)) ∧ w' = setW ρ chars.data.toList w := by
  have hM := Any.strings_makeASCIISet { L with } hv hi chars w hcs hascii
  clear hascii
  have hemp : chars.toList.isEmpty = false := by
    rw [Lib.toList_data]
    cases h : chars.data.toList with
    | nil => have := Lib.size_eq chars; rw [h, List.length_nil] at this; omega
    | cons _ _ => rfl
  have hn1 : ((chars.size : Int) == 1) = false := beq_eq_false_iff_ne.2 (by omega)
  have h8z : decide ((8 : Int) < (s.size : Int)) = true := decide_eq_true (by omega)
  have hsz := Lib.setCells_size chars.data.toList
  have hst : (storeCells ⟨w.heap.size + 1, 0, none⟩ (Lib.setCells chars.data.toList).toList 0).run P ((w.alloc (.cells (Lib.setCells chars.data.toList) (ρ.t 116))).alloc (.cells (Array.replicate 256 (.bool false)) (ρ.t 116))) = .ok () (setW ρ chars.data.toList w) := by
    have := run_storeCells_new (P := P) (w.alloc (.cells (Lib.setCells chars.data.toList) (ρ.t 116))) (ρ.t 116) (Array.replicate 256 (.bool false)) (Lib.setCells chars.data.toList) (by rw [hsz]; exact hi) (by rw [hsz, Array.size_replicate]) (Lib.setCells_one _)
    simpa [setW] using this
  have hAt : Aside (∀ x : UInt8, (setW ρ chars.data.toList w).cell? ⟨w.heap.size + 1, x.toNat, none⟩ = some (.bool (chars.data.toList.contains x))) := fun x => by
    unfold setW
    rw [World.cell?_alloc_at _ _ _ _ (by simp), Lib.setCells_at]
  have t3 := L.t3; have a3 := L.a3; have z3 := L.z3; have v3 := L.v3
  have t4 := L.t4; have a4 := L.a4; have z4 := L.z4; have v4 := L.v4
  have t5 := L.t5; have a5 := L.a5; have z5 := L.z5; have v5 := L.v5
  have t9 := L.t9; have a9 := L.a9; have z9 := L.z9; have v9 := L.v9
  have t21 := L.t21; have a21 := L.a21; have z21 := L.z21; have v21 := L.v21
  have t116 := L.t116
  have e226 : ∀ args w, (callFunc (ρ.f 226) args).run P w = .ok (.enter (ρ.f 226) args) w := enters_of L.f226 (by kernel_rfl) rfl
  have e227 : ∀ args w, (callFunc (ρ.f 227) args).run P w = .ok (.enter (ρ.f 227) args) w := enters_of L.f227 (by kernel_rfl) rfl
  have e228 : ∀ args w, (callFunc (ρ.f 228) args).run P w = .ok (.enter (ρ.f 228) args) w := enters_of L.f228 (by kernel_rfl) rfl
  go_enter L.f153, Body.n153_ntmps ρ
  go_wp2_with (first
    | (go_at_fn (ρ.f 226); refine (Any.strings_shouldUseASCIISet { L with } _ _).mono ?_; rintro e w' ⟨rfl, hw⟩; rw [hw, h8z])
    | (go_at_fn (ρ.f 227); refine hM.mono ?_; rintro e w' ⟨rfl, hw⟩; rw [hw]))
  -- the set goes into a variable of its own, whole: by hand
  simp only [L.z116, Result.andThen, ↓reduceIte, hst]
  rw [Oper.upon_skip]
  go_wp2
  clear hM hst
  go_loopg [8] s.size (fun g s8 wx => ∃ i : Nat, i + g = s.size ∧ s8 = .int .i64 i ∧ wx = setW ρ chars.data.toList w ∧ Lib.NoAny s.data.toList chars.data.toList i)
  case atStart => exact ⟨0, by omega, rfl, rfl, Lib.NoAny.zero _ _⟩
  case round =>
    obtain ⟨i, hig, rfl, rfl, hno⟩ := hrel
    have HN : Aside (Lib.NoAny s.data.toList chars.data.toList i) := hno
    clear hno
    cases gk with
    | zero =>
      obtain rfl : i = s.size := by omega
      have hiz : ¬ ((s.size : Int) < (s.size : Int)) := by omega
      go_wp2
      go_ret
      exact ⟨by rw [Lib.indexAny_none (by rw [← Lib.size_eq]; exact HN.out)]; rfl, rfl⟩
    | succ g =>
      have hi : i < s.size := by omega
      have hiz : (i : Int) < (s.size : Int) := by omega
      obtain ⟨x, hx⟩ : ∃ x : UInt8, s[i]'hi = x := ⟨_, rfl⟩
      have Hx : Aside (s.data.toList[i]? = some x) := by rw [← hx]; exact Lib.data_getElem? s i hi
      have hcx := hAt.out x
      cases hin : chars.data.toList.contains x <;> rw [hin] at hcx
      · go_wp2_with (go_at_fn (ρ.f 228); refine (Any.asciiSet_contains { L with } _ x _ _ hcx).mono ?_; rintro e w' ⟨rfl, hw⟩; rw [hw])
        go_roundg g
        case measure => omega
        case rel => exact ⟨i + 1, by omega, by first | rfl | simp, rfl, HN.out.succ Hx.out hin⟩
      · go_wp2_with (go_at_fn (ρ.f 228); refine (Any.asciiSet_contains { L with } _ x _ _ hcx).mono ?_; rintro e w' ⟨rfl, hw⟩; rw [hw])
        go_ret
        exact ⟨by rw [Lib.indexAny_hit HN.out Hx.out hin]; rfl, rfl⟩
end
theorem indexAny_far (s chars : Bs) (h2 : 2 ≤ chars.length) (hs : s.length ≤ 9223372036854775807) (hl : chars.length < 4294967281) (hs8 : ∀ b ∈ s, b.toNat < 128) (ha : ∀ b ∈ chars, b.toNat < 128) : FnOk Tryz.prog 104 [str s, str chars] (int (Lib.indexAny s chars)) := by
  refine fnOk_litsB [.string (bs s), .string (bs chars)] (by kernel_rfl) fun w _ => ?_
  have hac : ∀ (j : Nat) b, (bs chars).data.toList[j]? = some b → b.toNat < 128 := fun j b hb => ha b (List.mem_of_getElem? hb)
  have has : ∀ (j : Nat) b, (bs s).data.toList[j]? = some b → b.toNat < 128 := fun j b hb => hs8 b (List.mem_of_getElem? hb)
  by_cases h8 : s.length ≤ 8
  · refine (Tryz.strings_IndexAny (zero_of_info (n := 256) (by kernel_rfl)).1 (bs s) (bs chars) w (by simp; omega) hl has hac).mono ?_
    rintro e w' ⟨rfl, h⟩
    exact ⟨rfl, h⟩
  · refine (far_any Tryz.lays153 (zero_of_info (n := 256) (by kernel_rfl)).1 (by kernel_rfl) (bs s) (bs chars) w (by simpa using h2) (by simp; omega) (by simpa using hs) (by simpa using hl) hac).mono ?_
    rintro e w' ⟨rfl, rfl⟩
    exact ⟨rfl, ((Below.refl _ w).alloc (Nat.le_refl _) _).alloc (by simp) _⟩
theorem containsAny_far (s chars : Bs) (h2 : 2 ≤ chars.length) (hs : s.length ≤ 9223372036854775807) (hl : chars.length < 4294967281) (hs8 : ∀ b ∈ s, b.toNat < 128) (ha : ∀ b ∈ chars, b.toNat < 128) : FnOk Tryz.prog 54 [str s, str chars] (tru (s.any fun c => chars.contains c)) := by
  have e : (s.any fun c => chars.contains c) = decide (0 ≤ Lib.indexAny s chars) := by
    clear hs8 hs
    induction s with
    | nil => rfl
    | cons b l ih =>
      have hge := Lib.indexAny_ge chars l
      rw [List.any_cons, ih, Lib.indexAny]
      cases chars.contains b with
      | true => simp
      | false =>
        simp only [Bool.false_or, Bool.false_eq_true, if_false, beq_iff_eq]
        split
        · rename_i h; rw [h]
        · rw [decide_eq_decide]; omega
  rw [e]
  refine fnOk Tryz.func54 rfl (by kernel_rfl) Tryz.ntmps54 _ rfl (by simp) fun C hc => ?_
  have h := indexAny_far s chars h2 hs hl hs8 ha
  generalize Lib.indexAny s chars = k at h ⊢
  repeat' (first | (first | refine Ya ?_ | refine Yb ?_ | refine Yc ?_ | refine Yd ?_ | refine Ye ?_ | refine Yf ?_ | refine Yg ?_ | refine Yh ?_ | refine Yi ?_ | refine Yj ?_ | refine Yk ?_ | refine Yl ?_ | refine Ym ?_ | refine Yn ?_ | refine Yo ?_ | refine Yp (h := ?_) | refine Yq ?_ | refine Yr ?_ | refine Ys ?_ | refine Zr hc (hk := ?_) | refine Zd hc (hk := ?_) | (refine Zc (ht := fun hb => ?_) (hf := fun hb => ?_) <;> (try simp at hb)) | fail) | (first | refine Zw hc (hf := by exact h) (hk := ?_) | refine Zq hc (hf := by exact h) (hk := ?_) | refine Zo hc (hk := ?_) | refine Zu hc (hk := ?_) | refine Ze hc (hk := ?_) | refine Zn hc (hk := ?_) | fail))
  (refine Zl hc (hr := ?_))
  simp
end Go.Proofs.YtpmfmjgnhdfakaaGreatDoor
/-
  ADDRESS: CheckSameness (program). (WITH run_drawN.)
-/
set_option linter.unusedSimpArgs false
set_option linter.unusedVariables false
namespace Go.Proofs.YtpmfmjgnhdfakaaGreatDoor
open Go.Lw Go.RowKit
set_option maxRecDepth 100000
set_option maxHeartbeats 1000000

/-- Both tests of the order agree. -/
theorem ord_same (a b : Rul) : 0 ≤ or2 (Lib.compareInt a.1 b.1) (Lib.compareBytes a.2 b.2) ↔ ordBad a b := by
  unfold or2 ordBad
  rcases Int.lt_trichotomy a.1 b.1 with h | h | h
  · rw [show Lib.compareInt a.1 b.1 = -1 by unfold Lib.compareInt; rw [if_pos h], if_pos (by decide)]
    constructor
    · intro e; omega
    · rintro (e | ⟨e, _⟩) <;> omega
  · rw [show Lib.compareInt a.1 b.1 = 0 by unfold Lib.compareInt; rw [if_neg (by omega), if_neg (by omega)], if_neg (by decide), cmp_bad]
    exact ⟨fun e => .inr ⟨h.symm, e⟩, fun e => e.elim (fun e => absurd e (by omega)) (·.2)⟩
  · rw [show Lib.compareInt a.1 b.1 = 1 by unfold Lib.compareInt; rw [if_neg (by omega), if_pos (by omega)], if_pos (by decide)]
    exact ⟨fun _ => .inl h, fun _ => by decide⟩
/-- What no name of a rule may have. -/
abbrev nameB : Bs := [47, 63, 38, 61, 37, 65, 66, 67, 68, 69, 70, 71, 72, 73, 74, 75, 76, 77, 78, 79, 80, 81, 82, 83, 84, 85, 86, 87, 88, 89, 90]
theorem bad_set : ∀ c : UInt8, nameB.contains c = badN c := by
  have h : ∀ i : Fin 256, nameB.contains (UInt8.ofNat i.val) = badN (UInt8.ofNat i.val) := by decide +kernel
  intro c
  have := h ⟨c.toNat, UInt8.toNat_lt c⟩
  simpa using this
theorem row_ascii {s : Bs} (h : isRow [] s) : ∀ b ∈ s, b.toNat < 128 := by
  intro b hb
  have := rowK_nobad s h b hb
  simp [badB] at this
  omega
theorem sameCheck_ok (R : List Rul) (hR : R.length ≤ 9223372036854775807) (hn : ∀ j, (rulAt R j).2.length ≤ 4611686018427387904) : FnOk Tryz.prog 22 [rulSl R] (int (sameC R)) := by
  refine fnOk Tryz.func22 rfl (by kernel_rfl) Tryz.ntmps22 _ rfl (by simp) fun C hc => ?_
  unfold sameC
  repeat' (first | (first | refine Ya ?_ | refine Yb ?_ | refine Yc ?_ | refine Yd ?_ | refine Ye ?_ | refine Yf ?_ | refine Yg ?_ | refine Yh ?_ | refine Yi ?_ | refine Yj ?_ | refine Yk ?_ | refine Yl ?_ | refine Ym ?_ | refine Yn ?_ | refine Yo ?_ | refine Yp (h := ?_) | refine Yq ?_ | refine Yr ?_ | refine Ys ?_ | refine Zr hc (hk := ?_) | refine Zd hc (hk := ?_) | (refine Zc (ht := fun hb => ?_) (hf := fun hb => ?_) <;> (try simp at hb)) | fail) | (first | refine Zo hc (hk := ?_) | refine Zu hc (hk := ?_) | refine Ze hc (hk := ?_) | refine Zn hc (hk := ?_) | fail))
  · rw [if_pos (by omega)]
    (refine Zl hc (hr := ?_))
    simp
  · rw [if_neg (by omega)]
    refine ewp_loop (fun j : Nat => ⟨[(0, .d (rulSl R)), (9, .d (rulSl R)), (10, .d (int R.length)), (11, .d (int j))], []⟩) (fun j => j ≤ R.length ∧ sameGo R 0 = sameGo R j) (fun j => R.length - j) 0 (by simp) (run_keep [0, 9, 10, 11] [] (by simp; exact Gives.mk) (by simp; exact Gives.mk)) ?_
    rintro j ⟨hj, hA⟩
    have hst : sameGo R j = if j < R.length then (if ruleE (rulAt R j) ≠ 0 then ruleE (rulAt R j) else if 0 < j ∧ 0 ≤ or2 (Lib.compareInt (rulAt R (j - 1)).1 (rulAt R j).1) (Lib.compareBytes (rulAt R (j - 1)).2 (rulAt R j).2) then 8 else sameGo R (j + 1)) else 0 := by
      rw [sameGo]
      by_cases ho : 0 ≤ or2 (Lib.compareInt (rulAt R (j - 1)).1 (rulAt R j).1) (Lib.compareBytes (rulAt R (j - 1)).2 (rulAt R j).2)
      · have ho2 := (ord_same _ _).1 ho
        simp only [ho, ho2, and_true]
      · have ho2 : ¬ ordBad (rulAt R (j - 1)) (rulAt R j) := fun e => ho ((ord_same _ _).2 e)
        simp only [ho, ho2, and_false, if_false]
    by_cases hlt : j < R.length
    rotate_left
    · repeat' (first | (first | refine Ya ?_ | refine Yb ?_ | refine Yc ?_ | refine Yd ?_ | refine Ye ?_ | refine Yf ?_ | refine Yg ?_ | refine Yh ?_ | refine Yi ?_ | refine Yj ?_ | refine Yk ?_ | refine Yl ?_ | refine Ym ?_ | refine Yn ?_ | refine Yo ?_ | refine Yp (h := ?_) | refine Yq ?_ | refine Yr ?_ | refine Ys ?_ | refine Zr hc (hk := ?_) | refine Zd hc (hk := ?_) | (refine Zc (ht := fun hb => ?_) (hf := fun hb => ?_) <;> (try simp at hb)) | fail) | (first | refine Zo hc (hk := ?_) | refine Zu hc (hk := ?_) | refine Ze hc (hk := ?_) | refine Zn hc (hk := ?_) | fail))
      all_goals try contradiction
      all_goals try (exfalso; omega)
      rw [hA, hst, if_neg hlt]
      (refine Zl hc (hr := ?_))
      simp
    rw [if_pos hlt] at hst
    have hI := isRow_ok (rulAt R j).2 [] (hn j)
    have hCA := containsAny_far (rulAt R j).2 nameB (by simp) (by have := hn j; omega) (by simp)
    have hO := or_ok (Lib.compareInt (rulAt R (j - 1)).1 (rulAt R j).1) (Lib.compareBytes (rulAt R (j - 1)).2 (rulAt R j).2)
    have hc1 := compare_ok (rulAt R (j - 1)).1 (rulAt R j).1
    have hc2 := strCompare_ok (rulAt R (j - 1)).2 (rulAt R j).2
    have hra := row_ascii (s := (rulAt R j).2)
    simp only [bad_set] at hCA
    generalize hE : ruleE (rulAt R j) = e at hst
    unfold ruleE namedR at hE
    generalize or2 (Lib.compareInt (rulAt R (j - 1)).1 (rulAt R j).1) (Lib.compareBytes (rulAt R (j - 1)).2 (rulAt R j).2) = oo at hO hst
    generalize Lib.compareInt (rulAt R (j - 1)).1 (rulAt R j).1 = c1 at hO hc1
    generalize Lib.compareBytes (rulAt R (j - 1)).2 (rulAt R j).2 = c2 at hO hc2
    have eN : (decide ((rulAt R j).2 = []) = (decide ((rulAt R j).1 = 5) || decide ((rulAt R j).1 = 7))) ↔ (((rulAt R j).1 == 5 || (rulAt R j).1 == 7) = List.isEmpty (rulAt R j).2) := by
      generalize rulAt R j = x
      obtain ⟨k, n⟩ := x
      rw [show decide ((k, n).2 = []) = List.isEmpty (k, n).2 by cases n <;> rfl]
      exact eq_comm
    have neg {a b : Bool} (h : a = !b) : ¬ a = b := fun e => by
      subst e
      revert h
      cases a <;> decide
    by_cases hrow : isRow [] (rulAt R j).2
    · rw [decide_eq_true hrow] at hI
      have hC := hCA (hra hrow) (by decide)
      generalize List.any (rulAt R j).2 badN = an at hC hE
      clear hCA hra
      repeat' (first | (first | refine Ya ?_ | refine Yb ?_ | refine Yc ?_ | refine Yd ?_ | refine Ye ?_ | refine Yf ?_ | refine Yg ?_ | refine Yh ?_ | refine Yi ?_ | refine Yj ?_ | refine Yk ?_ | refine Yl ?_ | refine Ym ?_ | refine Yn ?_ | refine Yo ?_ | refine Yp (h := ?_) | refine Yq ?_ | refine Yr ?_ | refine Ys ?_ | refine Zr hc (hk := ?_) | refine Zd hc (hk := ?_) | (refine Zc (ht := fun hb => ?_) (hf := fun hb => ?_) <;> (try simp at hb)) | fail) | (first | refine Zw hc (hf := by first | exact hI | exact hC) (hk := ?_) | refine Zq hc (hf := by first | exact hI | exact hC) (hk := ?_) | refine Zo hc (hk := ?_) | refine Zu hc (hk := ?_) | refine Ze hc (hk := ?_) | refine Zn hc (hk := ?_) | fail))
      · rw [if_pos hb] at hE
        subst hE
        rw [if_pos (by decide)] at hst
        rw [hA, hst]
        (refine Zl hc (hr := ?_))
        simp
      · rename_i g1
        rw [if_neg (fun h => by simp only [rulAt] at h; omega), if_pos (.inl (eN.2 hb))] at hE
        subst hE
        rw [if_pos (by decide)] at hst
        rw [hA, hst]
        (refine Zl hc (hr := ?_))
        simp
      · rename_i g1 g2
        rw [if_neg (fun h => by simp only [rulAt] at h; omega), if_neg (fun h => h.elim (fun h => neg g2 (eN.1 h)) (fun h => h hrow)), if_pos hb] at hE
        subst hE
        rw [if_pos (by decide)] at hst
        rw [hA, hst]
        (refine Zl hc (hr := ?_))
        simp
      · rename_i g1 g2
        rw [if_neg (fun h => by simp only [rulAt] at h; omega), if_neg (fun h => h.elim (fun h => neg g2 (eN.1 h)) (fun h => h hrow)), if_neg (by simpa using hb)] at hE
        subst hE
        rw [if_neg (by decide)] at hst
        clear eN neg hI hC g2 hrow
        by_cases h0 : 0 < j
        · (refine run_drawT 21 hc (by kernel_rfl) (by kernel_rfl) ?_; try simp only [List.take_succ_cons, List.take_zero, List.drop_succ_cons, List.drop_zero])
          repeat' (first | (first | refine ewp_seq ?_ | refine run_region hc (by simp [h0]; exact Ends.go) (by first | exact True.intro | omega | assumption | (simp; done) | (simp; omega) | (simp at *; omega)) ?_ | refine run_draw hc (by kernel_rfl) (by kernel_rfl) (by simp [h0]; exact Ends.go) (by first | exact True.intro | omega | assumption | (simp; done) | (simp; omega) | (simp at *; omega)) ?_ | refine ewp_scope ?_ | refine scopeQ_normal ?_ | refine scopeQ_ret ?_ | refine scopeQ_exit ?_ | refine ewp_skip ?_ | refine ewp_block ?_ | refine ewp_exit ?_ | refine ewp_label ?_ | refine thenQ_normal ?_ | refine thenQ_ret ?_ | refine thenQ_exit ?_ | refine blockQ_normal ?_ | refine blockQ_ret ?_ | refine blockQ_here ?_ | refine blockQ_there (by decide) ?_ | refine ewp_ret ?_ | refine opsW_nil ?_ | refine quietW_nil ?_ | (refine run_cond (by simp [h0]; exact Gives.mk) (fun hb => ?_) (fun hb => ?_) <;> (try simp at hb)) | fail) | (first | refine run_callW hc (by simp [h0]; exact Gives.mk) (by simp [h0]; exact Gives.mk) (by simp [h0]; exact Gives.mk) (by simp [h0]; exact Gives.mk) (by simp [h0]; exact Gives.mk) (fun _ => by first | exact hc1 | exact hc2 | exact hO) (by simp) (by simp) ?_ | refine run_callQ hc (by simp [h0]; exact Gives.mk) (by simp [h0]; exact Gives.mk) (by simp [h0]; exact Gives.mk) (by simp [h0]; exact Gives.mk) (by simp [h0]; exact Gives.mk) (fun _ => by first | exact hc1 | exact hc2 | exact hO) (by simp) (by simp) ?_ | refine run_ops hc (by simp [h0]; first | exact Ends.go | exact Ends.halt) (by decide) (by first | exact True.intro | omega | assumption | (simp; done) | (simp; omega) | (simp at *; omega)) ?_ | refine run_quiet hc (by simp [h0]; first | exact Ends.go | exact Ends.halt) (by decide) (by first | exact True.intro | omega | assumption | (simp; done) | (simp; omega) | (simp at *; omega)) ?_ | refine run_regionW hc (by simp [h0]; exact Ends.halt) (by first | exact True.intro | omega | assumption | (simp; done) | (simp; omega) | (simp at *; omega)) ?_ | refine run_drawN hc (by kernel_rfl) (by decide) (by kernel_rfl) (by simp [h0]; exact Ends.halt) (by first | exact True.intro | omega | assumption | (simp; done) | (simp; omega) | (simp at *; omega)) ?_ | fail) | (first | refine run_skip hc (by simp [h0]; exact Gives.mk) (by simp) ?_ | fail))
          · rw [hA, hst, if_pos ⟨h0, hb⟩]
            (refine Zl hc (hr := ?_))
            simp
          · exact ⟨j + 1, ⟨by omega, by rw [hA, hst, if_neg (fun h => by omega)]⟩, by omega, run_back [0, 9, 10, 11] [] (by simp; exact Gives.mk) (by simp; exact Gives.mk) (by simp)⟩
        · obtain rfl : j = 0 := by omega
          rw [if_neg (by omega)] at hst
          (refine run_drawT 21 hc (by kernel_rfl) (by kernel_rfl) ?_; try simp only [List.take_succ_cons, List.take_zero, List.drop_succ_cons, List.drop_zero])
          repeat' (first | (first | refine Ya ?_ | refine Yb ?_ | refine Yc ?_ | refine Yd ?_ | refine Ye ?_ | refine Yf ?_ | refine Yg ?_ | refine Yh ?_ | refine Yi ?_ | refine Yj ?_ | refine Yk ?_ | refine Yl ?_ | refine Ym ?_ | refine Yn ?_ | refine Yo ?_ | refine Yp (h := ?_) | refine Yq ?_ | refine Yr ?_ | refine Ys ?_ | refine Zr hc (hk := ?_) | refine Zd hc (hk := ?_) | (refine Zc (ht := fun hb => ?_) (hf := fun hb => ?_) <;> (try simp at hb)) | fail) | (first | refine run_skip hc (by simp; exact Gives.mk) (by simp) ?_ | fail) | (first | refine run_callW hc (by simp; exact Gives.mk) (by simp; exact Gives.mk) (by simp; exact Gives.mk) (by simp; exact Gives.mk) (by simp; exact Gives.mk) (fun _ => by first | exact (show FnOk _ _ _ (int 0) from by exfalso; simp_all; done)) (by simp) (by simp) ?_ | refine run_callQ hc (by simp; exact Gives.mk) (by simp; exact Gives.mk) (by simp; exact Gives.mk) (by simp; exact Gives.mk) (by simp; exact Gives.mk) (fun _ => by first | exact (show FnOk _ _ _ (int 0) from by exfalso; simp_all; done)) (by simp) (by simp) ?_ | refine run_ops hc (by simp; first | exact Ends.go | exact Ends.halt) (by decide) (by first | exact True.intro | omega | assumption | (simp; done) | (simp; omega) | (simp at *; omega)) ?_ | refine run_quiet hc (by simp; first | exact Ends.go | exact Ends.halt) (by decide) (by first | exact True.intro | omega | assumption | (simp; done) | (simp; omega) | (simp at *; omega)) ?_ | refine run_regionW hc (by simp; exact Ends.halt) (by first | exact True.intro | omega | assumption | (simp; done) | (simp; omega) | (simp at *; omega)) ?_ | refine run_drawN hc (by kernel_rfl) (by decide) (by kernel_rfl) (by simp; exact Ends.halt) (by first | exact True.intro | omega | assumption | (simp; done) | (simp; omega) | (simp at *; omega)) ?_ | fail))
          exact ⟨0 + 1, ⟨by omega, by rw [hA, hst]⟩, by omega, run_back [0, 9, 10, 11] [] (by simp; exact Gives.mk) (by simp; exact Gives.mk) (by simp)⟩
      · exfalso; omega
    · rw [decide_eq_false hrow] at hI
      clear hCA hra
      repeat' (first | (first | refine Ya ?_ | refine Yb ?_ | refine Yc ?_ | refine Yd ?_ | refine Ye ?_ | refine Yf ?_ | refine Yg ?_ | refine Yh ?_ | refine Yi ?_ | refine Yj ?_ | refine Yk ?_ | refine Yl ?_ | refine Ym ?_ | refine Yn ?_ | refine Yo ?_ | refine Yp (h := ?_) | refine Yq ?_ | refine Yr ?_ | refine Ys ?_ | refine Zr hc (hk := ?_) | refine Zd hc (hk := ?_) | (refine Zc (ht := fun hb => ?_) (hf := fun hb => ?_) <;> (try simp at hb)) | fail) | (first | refine Zw hc (hf := by exact hI) (hk := ?_) | refine Zq hc (hf := by exact hI) (hk := ?_) | refine Zo hc (hk := ?_) | refine Zu hc (hk := ?_) | refine Ze hc (hk := ?_) | refine Zn hc (hk := ?_) | fail) | (first | refine run_skip hc (by simp; exact Gives.mk) (by simp) ?_ | fail))
      all_goals try contradiction
      · rw [if_pos hb] at hE
        subst hE
        rw [if_pos (by decide)] at hst
        rw [hA, hst]
        (refine Zl hc (hr := ?_))
        simp
      · rename_i g1
        rw [if_neg (fun h => by simp only [rulAt] at h; omega), if_pos (.inl (eN.2 hb))] at hE
        subst hE
        rw [if_pos (by decide)] at hst
        rw [hA, hst]
        (refine Zl hc (hr := ?_))
        simp
      · rename_i g1
        rw [if_neg (fun h => by simp only [rulAt] at h; omega), if_pos (.inr hrow)] at hE
        subst hE
        rw [if_pos (by decide)] at hst
        rw [hA, hst]
        (refine Zl hc (hr := ?_))
        simp
      · exfalso; omega
end Go.Proofs.YtpmfmjgnhdfakaaGreatDoor
