/-
  ADDRESS: keys without rules: has, turned, pathOf, queryOf, key. (WITH run_drawN.)
-/
import Derived.Test.YtpmfmjgnhdfakaaGreatDoorKeyP
import Derived.Test.YtpmfmjgnhdfakaaGreatDoorRow
import Derived.Test.YtpmfmjgnhdfakaaGreatDoorNm
set_option linter.unusedSimpArgs false
set_option linter.unusedVariables false
namespace Go.Proofs.YtpmfmjgnhdfakaaGreatDoor
open Go.Lw Go.RowKit
set_option maxRecDepth 100000
set_option maxHeartbeats 1000000

/-- No rules. -/
abbrev noL : D := .lit (.slice none 0 0)
theorem index0_ok (k : Int) (n : Bs) : FnOk Tryz.prog 139 [noL, .agg [int k, str n]] (int (-1)) := by
  refine fnOk Tryz.func139 rfl (by kernel_rfl) Tryz.ntmps139 _ rfl (by simp) fun C hc => ?_
  repeat' (first | (first | refine Ya ?_ | refine Yb ?_ | refine Yc ?_ | refine Yd ?_ | refine Ye ?_ | refine Yf ?_ | refine Yg ?_ | refine Yh ?_ | refine Yi ?_ | refine Yj ?_ | refine Yk ?_ | refine Yl ?_ | refine Ym ?_ | refine Yn ?_ | refine Yo ?_ | refine Yp (h := ?_) | refine Yq ?_ | refine Yr ?_ | refine Ys ?_ | refine Zr hc (hk := ?_) | refine Zd hc (hk := ?_) | (refine Zc (ht := fun hb => ?_) (hf := fun hb => ?_) <;> (try simp at hb)) | fail) | (first | refine Zo hc (hk := ?_) | refine Zu hc (hk := ?_) | refine Ze hc (hk := ?_) | refine Zn hc (hk := ?_) | fail))
  refine ewp_loop (fun _ : Unit => ⟨[(7, .d (int 0)), (8, .d (int 0))], []⟩) (fun _ => True) (fun _ => 0) () trivial (run_keep [7, 8] [] (by simp; exact Gives.mk) (by simp; exact Gives.mk)) ?_
  rintro _ _
  repeat' (first | (first | refine Ya ?_ | refine Yb ?_ | refine Yc ?_ | refine Yd ?_ | refine Ye ?_ | refine Yf ?_ | refine Yg ?_ | refine Yh ?_ | refine Yi ?_ | refine Yj ?_ | refine Yk ?_ | refine Yl ?_ | refine Ym ?_ | refine Yn ?_ | refine Yo ?_ | refine Yp (h := ?_) | refine Yq ?_ | refine Yr ?_ | refine Ys ?_ | refine Zr hc (hk := ?_) | refine Zd hc (hk := ?_) | (refine Zc (ht := fun hb => ?_) (hf := fun hb => ?_) <;> (try simp at hb)) | fail) | (first | refine Zo hc (hk := ?_) | refine Zu hc (hk := ?_) | refine Ze hc (hk := ?_) | refine Zn hc (hk := ?_) | fail))
  all_goals try contradiction
  (refine Zl hc (hr := ?_))
  simp
theorem contains0_ok (k : Int) (n : Bs) : FnOk Tryz.prog 107 [noL, .agg [int k, str n]] (tru false) := by
  refine fnOk Tryz.func107 rfl (by kernel_rfl) Tryz.ntmps107 _ rfl (by simp) fun C hc => ?_
  repeat' (first | (first | refine Ya ?_ | refine Yb ?_ | refine Yc ?_ | refine Yd ?_ | refine Ye ?_ | refine Yf ?_ | refine Yg ?_ | refine Yh ?_ | refine Yi ?_ | refine Yj ?_ | refine Yk ?_ | refine Yl ?_ | refine Ym ?_ | refine Yn ?_ | refine Yo ?_ | refine Yp (h := ?_) | refine Yq ?_ | refine Yr ?_ | refine Ys ?_ | refine Zr hc (hk := ?_) | refine Zd hc (hk := ?_) | (refine Zc (ht := fun hb => ?_) (hf := fun hb => ?_) <;> (try simp at hb)) | fail) | (first | refine Zw hc (hf := by exact index0_ok _ _) (hk := ?_) | refine Zq hc (hf := by exact index0_ok _ _) (hk := ?_) | refine Zo hc (hk := ?_) | refine Zu hc (hk := ?_) | refine Ze hc (hk := ?_) | refine Zn hc (hk := ?_) | fail))
  (refine Zl hc (hr := ?_))
  simp
theorem has0_ok (k : Int) (n : Bs) : FnOk Tryz.prog 58 [noL, int k, str n] (tru false) := by
  refine fnOk Tryz.func58 rfl (by kernel_rfl) Tryz.ntmps58 _ rfl (by simp) fun C hc => ?_
  repeat' (first | (first | refine Ya ?_ | refine Yb ?_ | refine Yc ?_ | refine Yd ?_ | refine Ye ?_ | refine Yf ?_ | refine Yg ?_ | refine Yh ?_ | refine Yi ?_ | refine Yj ?_ | refine Yk ?_ | refine Yl ?_ | refine Ym ?_ | refine Yn ?_ | refine Yo ?_ | refine Yp (h := ?_) | refine Yq ?_ | refine Yr ?_ | refine Ys ?_ | refine Zr hc (hk := ?_) | refine Zd hc (hk := ?_) | (refine Zc (ht := fun hb => ?_) (hf := fun hb => ?_) <;> (try simp at hb)) | fail) | (first | refine Zw hc (hf := by exact contains0_ok _ _) (hk := ?_) | refine Zq hc (hf := by exact contains0_ok _ _) (hk := ?_) | refine Zo hc (hk := ?_) | refine Zu hc (hk := ?_) | refine Ze hc (hk := ?_) | refine Zn hc (hk := ?_) | fail))
  (refine Zl hc (hr := ?_))
  simp
theorem lastByte_ok (s : Bs) (c : UInt8) (hs : s.length < 4611686018427387904) : FnOk Tryz.prog 16 [str s, u8 c] (int (Lib.lastIndexByte (bs s) c.toNat)) :=
  fnOk_lits [.string (bs s), .int .u8 c.toNat] (by kernel_rfl) fun w _ => Tryz.strings_LastIndexByte (bs s) c.toNat (by simpa using hs) w
theorem turned_ok (s : Bs) (f t : UInt8) (hs : s.length ≤ 100000) : FnOk Tryz.prog 59 [str s, str [f], str [t]] (str (turnP s f t)) := by
  refine fnOk Tryz.func59 rfl (by kernel_rfl) Tryz.ntmps59 _ rfl (by simp) fun C hc => ?_
  have hS := splitM_ok s f (by omega)
  have hne := split_ne f s
  have hlen := split_len s f
  have hR := reverse_ok (Lib.split s [f]) hne (by omega)
  have hJ := join_ok (Lib.split s [f]).reverse [t] (by simp; omega) (by have := turn_len s f t; unfold turnP at this; omega)
  unfold turnP
  have hM : (Lib.split s [f]).reverse.length = (Lib.split s [f]).length := by simp
  generalize (Lib.split s [f]).reverse = M at hR hJ hM ⊢
  generalize Lib.split s [f] = L at hS hR hne hlen hM
  have eJ : strSl M = D.sl M.length fun i => [str (M[i]?.getD [])] := by simp [strSl]
  rw [eJ] at hJ
  rw [← hM] at hS hR
  repeat' (first | (first | refine Ya ?_ | refine Yb ?_ | refine Yc ?_ | refine Yd ?_ | refine Ye ?_ | refine Yf ?_ | refine Yg ?_ | refine Yh ?_ | refine Yi ?_ | refine Yj ?_ | refine Yk ?_ | refine Yl ?_ | refine Ym ?_ | refine Yn ?_ | refine Yo ?_ | refine Yp (h := ?_) | refine Yq ?_ | refine Yr ?_ | refine Ys ?_ | refine Zr hc (hk := ?_) | refine Zd hc (hk := ?_) | (refine Zc (ht := fun hb => ?_) (hf := fun hb => ?_) <;> (try simp at hb)) | fail) | (first | refine run_callM ([(50001, 40001)]) (hS) hc (by simp; exact Gives.mk) (by simp; exact Gives.mk) (by simp; exact Gives.mk) (by simp; exact Gives.mk) (by simp; exact Gives.mk) rfl (by simp; exact Gives.mk) (by simp; exact Gives.mk) rfl (by simp) (by simp) (by simp; exact Gives.mk) (by simp; exact Gives.mk) ?_ | fail) | (first | refine run_callM ([(100001, 40001)]) (hR) hc (by simp; exact Gives.mk) (by simp; exact Gives.mk) (by simp; exact Gives.mk) (by simp; exact Gives.mk) (by simp; exact Gives.mk) rfl (by simp; exact Gives.mk) (by simp; exact Gives.mk) rfl (by simp) (by simp) (by simp; exact Gives.mk) (by simp; exact Gives.mk) ?_ | fail) | (first | refine Zw hc (hf := by exact hJ) (hk := ?_) | refine Zq hc (hf := by exact hJ) (hk := ?_) | refine Zo hc (hk := ?_) | refine Zu hc (hk := ?_) | refine Ze hc (hk := ?_) | refine Zn hc (hk := ?_) | fail))
  (refine Zl hc (hr := ?_))
  rfl
/-! Without rules. -/
theorem last_at (s : Bs) (c : UInt8) : ∃ k : Nat, Lib.lastIndexByte (bs s) c.toNat = (k : Int) - 1 ∧ k ≤ s.length := by
  unfold Lib.lastIndexByte
  rcases Lib.lastIdx_spec (bs s) c.toNat (bs s).size with ⟨h, _⟩ | ⟨i, h1, h2, _⟩
  · exact ⟨0, by rw [h]; rfl, Nat.zero_le _⟩
  · exact ⟨i + 1, by rw [h2]; omega, by simp at h1; omega⟩
theorem pathOf0_ok (p : Bs) (hp : p.length ≤ 100000) : FnOk Tryz.prog 60 [str p, noL] (str p) := by
  refine fnOk Tryz.func60 rfl (by kernel_rfl) Tryz.ntmps60 _ rfl (by simp) fun C hc => ?_
  have hL := lastByte_ok p 47 (by omega)
  obtain ⟨k, hk, hkl⟩ := last_at p 47
  rw [hk] at hL
  repeat' (first | (first | refine Ya ?_ | refine Yb ?_ | refine Yc ?_ | refine Yd ?_ | refine Ye ?_ | refine Yf ?_ | refine Yg ?_ | refine Yh ?_ | refine Yi ?_ | refine Yj ?_ | refine Yk ?_ | refine Yl ?_ | refine Ym ?_ | refine Yn ?_ | refine Yo ?_ | refine Yp (h := ?_) | refine Yq ?_ | refine Yr ?_ | refine Ys ?_ | refine Zr hc (hk := ?_) | refine Zd hc (hk := ?_) | (refine Zc (ht := fun hb => ?_) (hf := fun hb => ?_) <;> (try simp at hb)) | fail) | (first | refine Zw hc (hf := by first | exact hL | exact has0_ok _ _) (hk := ?_) | refine Zq hc (hf := by first | exact hL | exact has0_ok _ _) (hk := ?_) | refine Zo hc (hk := ?_) | refine Zu hc (hk := ?_) | refine Ze hc (hk := ?_) | refine Zn hc (hk := ?_) | fail))
  all_goals try contradiction
  (refine Zl hc (hr := ?_))
  simp
theorem queryOf0_ok (q : Bs) (hq : q.length ≤ 100000) : FnOk Tryz.prog 61 [str q, noL] (str (63 :: q)) := by
  refine fnOk Tryz.func61 rfl (by kernel_rfl) Tryz.ntmps61 _ rfl (by simp) fun C hc => ?_
  have hS := split_ok q 38 (by omega)
  have hne := split_ne 38 q
  have hlen := split_len q 38
  have heach := split_each 38 q
  have hj := join_split 38 q
  have hJ := join_ok (Lib.split q [38]) [38] (by omega) (by rw [hj]; omega)
  rw [hj] at hJ
  generalize Lib.split q [38] = L at hS hJ hne hlen heach
  have hL1 : 1 ≤ L.length := List.length_pos_iff.2 hne
  rw [show strSl L = D.sl L.length fun i => [str (L[i]?.getD [])] by simp [strSl]] at hJ
  repeat' (first | (first | refine Ya ?_ | refine Yb ?_ | refine Yc ?_ | refine Yd ?_ | refine Ye ?_ | refine Yf ?_ | refine Yg ?_ | refine Yh ?_ | refine Yi ?_ | refine Yj ?_ | refine Yk ?_ | refine Yl ?_ | refine Ym ?_ | refine Yn ?_ | refine Yo ?_ | refine Yp (h := ?_) | refine Yq ?_ | refine Yr ?_ | refine Ys ?_ | refine Zr hc (hk := ?_) | refine Zd hc (hk := ?_) | (refine Zc (ht := fun hb => ?_) (hf := fun hb => ?_) <;> (try simp at hb)) | fail) | (first | refine Zw hc (hf := by exact hS) (hk := ?_) | refine Zq hc (hf := by exact hS) (hk := ?_) | refine Zo hc (hk := ?_) | refine Zu hc (hk := ?_) | refine Ze hc (hk := ?_) | refine Zn hc (hk := ?_) | fail))
  refine ewp_loop (fun x : Nat × Nat => ⟨[(1, .d noL), (6, .os 40000 x.1), (14, .d (strSl L)), (15, .d (int L.length)), (16, .d (int x.1))], [(40000, .own 9 1 (true, [str []]) ((L.take x.1).map fun y => [str y]))]⟩) (fun x => x.1 ≤ L.length) (fun x => L.length - x.1) (0, 0) (by simp) (run_keepB [(6, none, 40000, 9, [str []])] [1, 6, 14, 15, 16] [40000] (by simp; exact Gives.mk) (by simp; exact Gives.mk) (by simp; exact Gives.mk)) ?_
  rintro ⟨j, u⟩ hj1
  simp only at hj1 ⊢
  by_cases hlt : j < L.length
  · have hel := heach _ (List.getElem_mem hlt)
    have hC := cut_ok (L[j]?.getD []) 61 (by rw [List.getElem?_eq_getElem hlt]; simp only [Option.getD_some]; omega)
    generalize Lib.cut (L[j]?.getD []) [61] = z at hC
    have e : (L.take (j + 1)).map (fun y => [str y]) = List.take j (List.take j (L.map fun x => [str x])) ++ [[str (L[j]?.getD [])]] := by
      rw [List.take_take, Nat.min_self, ← List.map_take, List.take_add_one, List.getElem?_eq_getElem hlt, List.map_append]; rfl
    repeat' (first | (first | refine Ya ?_ | refine Yb ?_ | refine Yc ?_ | refine Yd ?_ | refine Ye ?_ | refine Yf ?_ | refine Yg ?_ | refine Yh ?_ | refine Yi ?_ | refine Yj ?_ | refine Yk ?_ | refine Yl ?_ | refine Ym ?_ | refine Yn ?_ | refine Yo ?_ | refine Yp (h := ?_) | refine Yq ?_ | refine Yr ?_ | refine Ys ?_ | refine Zr hc (hk := ?_) | refine Zd hc (hk := ?_) | (refine Zc (ht := fun hb => ?_) (hf := fun hb => ?_) <;> (try simp at hb)) | fail) | (first | refine Zw hc (hf := by first | exact hC | exact has0_ok _ _) (hk := ?_) | refine Zq hc (hf := by first | exact hC | exact has0_ok _ _) (hk := ?_) | refine Zo hc (hk := ?_) | refine Zu hc (hk := ?_) | refine Ze hc (hk := ?_) | refine Zn hc (hk := ?_) | fail))
    all_goals try (exfalso; omega)
    exact ⟨(j + 1, 0), by simp only; omega, by simp only; omega, run_back [1, 6, 14, 15, 16] [40000] (by simp; exact Gives.mk) (by simp; exact Gives.mk) (by rw [e]; simp)⟩
  · obtain rfl : j = L.length := by omega
    rw [List.take_length]
    repeat' (first | (first | refine Ya ?_ | refine Yb ?_ | refine Yc ?_ | refine Yd ?_ | refine Ye ?_ | refine Yf ?_ | refine Yg ?_ | refine Yh ?_ | refine Yi ?_ | refine Yj ?_ | refine Yk ?_ | refine Yl ?_ | refine Ym ?_ | refine Yn ?_ | refine Yo ?_ | refine Yp (h := ?_) | refine Yq ?_ | refine Yr ?_ | refine Ys ?_ | refine Zr hc (hk := ?_) | refine Zd hc (hk := ?_) | (refine Zc (ht := fun hb => ?_) (hf := fun hb => ?_) <;> (try simp at hb)) | fail) | (first | refine Zw hc (hf := by first | exact has0_ok _ _ | exact hJ) (hk := ?_) | refine Zq hc (hf := by first | exact has0_ok _ _ | exact hJ) (hk := ?_) | refine Zo hc (hk := ?_) | refine Zu hc (hk := ?_) | refine Ze hc (hk := ?_) | refine Zn hc (hk := ?_) | fail))
    all_goals try (exfalso; omega)
    all_goals try contradiction
    (refine Zl hc (hr := ?_))
    simp
end Go.Proofs.YtpmfmjgnhdfakaaGreatDoor
/-
  ADDRESS: keys without rules: key, ofKey, OfKey, Key, HostOf. (WITH run_drawN.)
-/
set_option linter.unusedSimpArgs false
set_option linter.unusedVariables false
namespace Go.Proofs.YtpmfmjgnhdfakaaGreatDoor
open Go.Lw Go.RowKit
set_option maxRecDepth 100000
set_option maxHeartbeats 2000000

theorem small_parts {a : Adr} (h : chkC a = 0) : a.scheme.length ≤ 2000 ∧ a.host.length ≤ 2000 ∧ a.port.length ≤ 2000 ∧ a.path.length ≤ 2000 ∧ a.query.length ≤ 2000 := by
  obtain ⟨hA, hl⟩ := (chk_iff a).1 h
  rw [writeK_parts] at hl
  have hp : a.port.length ≤ (pPart a).length := by unfold pPart; split <;> simp_all
  have hq : a.query.length ≤ (qPart a).length := by
    unfold qPart
    split
    · simp
    · rename_i e
      have : a.query = [] := Classical.byContradiction fun x => e (hA.hasQ x)
      simp [this]
  omega
theorem norm_parts {a : Adr} (h : chkC a = 0) : (normA a).host.length ≤ 2001 ∧ (normA a).port.length ≤ 2001 ∧ (normA a).path.length ≤ 2001 ∧ (normA a).query.length ≤ 2001 := by
  obtain ⟨h1, h2, h3, h4, h5⟩ := small_parts h
  have k1 := path_len a.path
  have k2 := normR_len a.query
  have k3 : (portN (small a.scheme) (a.port.dropWhile fun c => decide (c = 48))).length ≤ a.port.length := by
    have := (List.dropWhile_suffix (l := a.port) fun c => decide (c = 48)).length_le
    unfold portN
    split
    · simp
    · exact this
  exact ⟨by simp [normA, small]; omega, by simp only [normA]; omega, by simp only [normA]; omega, by simp only [normA]; omega⟩
theorem key0_ok (a : Adr) (h : chkC a = 0) : FnOk Tryz.prog 23 [adrD a, noL] (str (keyC a)) := by
  refine fnOk Tryz.func23 rfl (by kernel_rfl) Tryz.ntmps23 _ rfl (by simp) fun C hc => ?_
  have hN := normal_is a h
  obtain ⟨k1, k2, k3, k4⟩ := norm_parts h
  unfold keyC
  generalize normA a = n at hN k1 k2 k3 k4 ⊢
  have hCP := cutPrefix_ok n.host [119, 119, 119, 46]
  have hT := turned_ok n.host 46 44 (by omega)
  have htl := turn_len n.host 46 44
  have hP := pathOf0_ok n.path (by omega)
  have hQ := queryOf0_ok n.query (by omega)
  unfold keyN pPart qPart
  generalize turnP n.host 46 44 = tu at hT htl ⊢
  repeat' (first | (first | refine Ya ?_ | refine Yb ?_ | refine Yc ?_ | refine Yd ?_ | refine Ye ?_ | refine Yf ?_ | refine Yg ?_ | refine Yh ?_ | refine Yi ?_ | refine Yj ?_ | refine Yk ?_ | refine Yl ?_ | refine Ym ?_ | refine Yn ?_ | refine Yo ?_ | refine Yp (h := ?_) | refine Yq ?_ | refine Yr ?_ | refine Ys ?_ | refine Zr hc (hk := ?_) | refine Zd hc (hk := ?_) | (refine Zc (ht := fun hb => ?_) (hf := fun hb => ?_) <;> (try simp at hb)) | fail) | (first | refine Zw hc (hf := by first | exact hN | exact hCP | exact hT | exact hP | exact hQ | exact has0_ok _ _) (hk := ?_) | refine Zq hc (hf := by first | exact hN | exact hCP | exact hT | exact hP | exact hQ | exact has0_ok _ _) (hk := ?_) | refine Zo hc (hk := ?_) | refine Zu hc (hk := ?_) | refine Ze hc (hk := ?_) | refine Zn hc (hk := ?_) | fail))
  all_goals rename_i g0 g1 g2
  all_goals (refine Zl hc (hr := ?_))
  all_goals simp [g1, g2, hb]
theorem cut_len (c : UInt8) (s : Bs) : (Lib.cut s [c]).1.length ≤ s.length ∧ (Lib.cut s [c]).2.1.length ≤ s.length := by
  rcases parted c s with h | ⟨x, y, rfl, h⟩
  · rw [cut_one c s h]; simp
  · rw [cut_app c x y h]; simp; omega
theorem cutP_len (s p : Bs) : (cutP s p).length ≤ s.length := by unfold cutP; split <;> simp
theorem ofKey_ok (s : Bs) (hm : s.length ≤ 9223372036854775807) : FnOk Tryz.prog 24 [str s] (.tup [adrD (ofK s).1, int (ofK s).2]) := by
  refine fnOk Tryz.func24 rfl (by kernel_rfl) Tryz.ntmps24 _ rfl (by simp) fun C hc => ?_
  unfold ofK
  by_cases hbig : 2000 < s.length
  · rw [if_pos hbig]
    repeat' (first | (first | refine Ya ?_ | refine Yb ?_ | refine Yc ?_ | refine Yd ?_ | refine Ye ?_ | refine Yf ?_ | refine Yg ?_ | refine Yh ?_ | refine Yi ?_ | refine Yj ?_ | refine Yk ?_ | refine Yl ?_ | refine Ym ?_ | refine Yn ?_ | refine Yo ?_ | refine Yp (h := ?_) | refine Yq ?_ | refine Yr ?_ | refine Ys ?_ | refine Zr hc (hk := ?_) | refine Zd hc (hk := ?_) | (refine Zc (ht := fun hb => ?_) (hf := fun hb => ?_) <;> (try simp at hb)) | fail) | (first | refine Zo hc (hk := ?_) | refine Zu hc (hk := ?_) | refine Ze hc (hk := ?_) | refine Zn hc (hk := ?_) | fail))
    all_goals try (exfalso; omega)
    (refine Zl hc (hr := ?_))
    simp
  rw [if_neg hbig]
  have h1 := cut_ok s 41 (by omega)
  have l1 := cut_len 41 s
  have h2 := cut_ok (Lib.cut s [41]).1 58 (by omega)
  have l2 := cut_len 58 (Lib.cut s [41]).1
  have h3 := turned_ok (Lib.cut (Lib.cut s [41]).1 [58]).1 44 46 (by omega)
  have l3 := turn_len (Lib.cut (Lib.cut s [41]).1 [58]).1 44 46
  have h4 := cutPrefix_ok (Lib.cut s [41]).2.1 [115]
  have l4 := cutP_len (Lib.cut s [41]).2.1 [115]
  have h5 := cut_ok (cutP (Lib.cut s [41]).2.1 [115]) 63 (by omega)
  have l5 := cut_len 63 (cutP (Lib.cut s [41]).2.1 [115])
  have hF : (decK s).1.Fits := ⟨by unfold decK; simp only; split <;> simp, by unfold decK; simp only; omega, by unfold decK; simp only; omega, by unfold decK; simp only; omega, by unfold decK; simp only; omega, by simp [decK]⟩
  have h6 := check_ok (decK s).1 hF
  have h7 := key0_ok (decK s).1
  unfold decK at h6 h7 ⊢
  by_cases hs : [115] <+: (Lib.cut s [41]).2.1
  · clear l1 l2 l3 l4 l5 hF
    simp only at h6 h7 ⊢
    rw [if_pos hs] at h6 h7 ⊢
    generalize keyC _ = kk at h7 ⊢
    generalize chkC _ = cc at h6 h7 ⊢
    generalize Lib.cut (cutP (Lib.cut s [41]).2.1 [115]) [63] = z3 at h5 h6 h7 ⊢
    generalize cutP (Lib.cut s [41]).2.1 [115] = rest at h4 h5
    generalize turnP (Lib.cut (Lib.cut s [41]).1 [58]).1 44 46 = ho at h3 h6 h7 ⊢
    generalize Lib.cut (Lib.cut s [41]).1 [58] = z2 at h2 h3 h6 h7 ⊢
    generalize Lib.cut s [41] = z1 at h1 h2 h4 h5 h6 h7 hs ⊢
    by_cases hcc : cc = 0
    · have h8 := h7 hcc
      clear h7
      subst hcc
      repeat' (first | (first | refine Ya ?_ | refine Yb ?_ | refine Yc ?_ | refine Yd ?_ | refine Ye ?_ | refine Yf ?_ | refine Yg ?_ | refine Yh ?_ | refine Yi ?_ | refine Yj ?_ | refine Yk ?_ | refine Yl ?_ | refine Ym ?_ | refine Yn ?_ | refine Yo ?_ | refine Yp (h := ?_) | refine Yq ?_ | refine Yr ?_ | refine Ys ?_ | refine Zr hc (hk := ?_) | refine Zd hc (hk := ?_) | (refine Zc (ht := fun hb => ?_) (hf := fun hb => ?_) <;> (try simp at hb)) | fail) | (first | refine Zw hc (hf := by first | exact h1 | exact h2 | exact h3 | exact h4 | exact h5 | exact h6 | exact h8) (hk := ?_) | refine Zq hc (hf := by first | exact h1 | exact h2 | exact h3 | exact h4 | exact h5 | exact h6 | exact h8) (hk := ?_) | refine Zo hc (hk := ?_) | refine Zu hc (hk := ?_) | refine Ze hc (hk := ?_) | refine Zn hc (hk := ?_) | fail))
      all_goals try (exfalso; omega)
      all_goals try contradiction
      · rw [if_pos (by
          rcases hb with h | h
          · exact .inl h
          · exact .inr (.inr h))]
        (refine Zl hc (hr := ?_))
        simp
      · rw [if_neg (fun e => by
          rcases e with h | h | h
          · exact hb.1 h.1 h.2
          · exact h rfl
          · exact h hb.2)]
        (refine Zl hc (hr := ?_))
        simp
    · clear h7
      rw [if_pos (.inr (.inl hcc))]
      repeat' (first | (first | refine Ya ?_ | refine Yb ?_ | refine Yc ?_ | refine Yd ?_ | refine Ye ?_ | refine Yf ?_ | refine Yg ?_ | refine Yh ?_ | refine Yi ?_ | refine Yj ?_ | refine Yk ?_ | refine Yl ?_ | refine Ym ?_ | refine Yn ?_ | refine Yo ?_ | refine Yp (h := ?_) | refine Yq ?_ | refine Yr ?_ | refine Ys ?_ | refine Zr hc (hk := ?_) | refine Zd hc (hk := ?_) | (refine Zc (ht := fun hb => ?_) (hf := fun hb => ?_) <;> (try simp at hb)) | fail) | (first | refine run_callW hc (by simp; exact Gives.mk) (by simp; exact Gives.mk) (by simp; exact Gives.mk) (by simp; exact Gives.mk) (by simp; exact Gives.mk) (fun _ => by first | exact h1 | exact h2 | exact h3 | exact h4 | exact h5 | exact h6 | exact (show FnOk _ _ _ (str []) from by exfalso; simp_all; done)) (by simp) (by simp) ?_ | refine run_callQ hc (by simp; exact Gives.mk) (by simp; exact Gives.mk) (by simp; exact Gives.mk) (by simp; exact Gives.mk) (by simp; exact Gives.mk) (fun _ => by first | exact h1 | exact h2 | exact h3 | exact h4 | exact h5 | exact h6 | exact (show FnOk _ _ _ (str []) from by exfalso; simp_all; done)) (by simp) (by simp) ?_ | refine run_ops hc (by simp; first | exact Ends.go | exact Ends.halt) (by decide) (by first | exact True.intro | omega | assumption | (simp; done) | (simp; omega) | (simp at *; omega)) ?_ | refine run_quiet hc (by simp; first | exact Ends.go | exact Ends.halt) (by decide) (by first | exact True.intro | omega | assumption | (simp; done) | (simp; omega) | (simp at *; omega)) ?_ | refine run_regionW hc (by simp; exact Ends.halt) (by first | exact True.intro | omega | assumption | (simp; done) | (simp; omega) | (simp at *; omega)) ?_ | refine run_drawN hc (by kernel_rfl) (by decide) (by kernel_rfl) (by simp; exact Ends.halt) (by first | exact True.intro | omega | assumption | (simp; done) | (simp; omega) | (simp at *; omega)) ?_ | fail))
      all_goals try (exfalso; omega)
      all_goals try contradiction
      all_goals (refine Zl hc (hr := ?_))
      all_goals simp
  · clear l1 l2 l3 l4 l5 hF
    rw [show cutP (Lib.cut s [41]).2.1 [115] = (Lib.cut s [41]).2.1 by unfold cutP; rw [if_neg hs]] at h4 h5 h6 h7 ⊢
    simp only at h6 h7 ⊢
    rw [if_neg hs] at h6 h7 ⊢
    generalize keyC _ = kk at h7 ⊢
    generalize chkC _ = cc at h6 h7 ⊢
    generalize Lib.cut (Lib.cut s [41]).2.1 [63] = z3 at h5 h6 h7 ⊢
    generalize turnP (Lib.cut (Lib.cut s [41]).1 [58]).1 44 46 = ho at h3 h6 h7 ⊢
    generalize Lib.cut (Lib.cut s [41]).1 [58] = z2 at h2 h3 h6 h7 ⊢
    generalize Lib.cut s [41] = z1 at h1 h2 h4 h5 h6 h7 hs ⊢
    by_cases hcc : cc = 0
    · have h8 := h7 hcc
      clear h7
      subst hcc
      repeat' (first | (first | refine Ya ?_ | refine Yb ?_ | refine Yc ?_ | refine Yd ?_ | refine Ye ?_ | refine Yf ?_ | refine Yg ?_ | refine Yh ?_ | refine Yi ?_ | refine Yj ?_ | refine Yk ?_ | refine Yl ?_ | refine Ym ?_ | refine Yn ?_ | refine Yo ?_ | refine Yp (h := ?_) | refine Yq ?_ | refine Yr ?_ | refine Ys ?_ | refine Zr hc (hk := ?_) | refine Zd hc (hk := ?_) | (refine Zc (ht := fun hb => ?_) (hf := fun hb => ?_) <;> (try simp at hb)) | fail) | (first | refine Zw hc (hf := by first | exact h1 | exact h2 | exact h3 | exact h4 | exact h5 | exact h6 | exact h8) (hk := ?_) | refine Zq hc (hf := by first | exact h1 | exact h2 | exact h3 | exact h4 | exact h5 | exact h6 | exact h8) (hk := ?_) | refine Zo hc (hk := ?_) | refine Zu hc (hk := ?_) | refine Ze hc (hk := ?_) | refine Zn hc (hk := ?_) | fail))
      all_goals try (exfalso; omega)
      all_goals try contradiction
      · rw [if_pos (by
          rcases hb with h | h
          · exact .inl h
          · exact .inr (.inr h))]
        (refine Zl hc (hr := ?_))
        simp
      · rw [if_neg (fun e => by
          rcases e with h | h | h
          · exact hb.1 h.1 h.2
          · exact h rfl
          · exact h hb.2)]
        (refine Zl hc (hr := ?_))
        simp
    · clear h7
      rw [if_pos (.inr (.inl hcc))]
      repeat' (first | (first | refine Ya ?_ | refine Yb ?_ | refine Yc ?_ | refine Yd ?_ | refine Ye ?_ | refine Yf ?_ | refine Yg ?_ | refine Yh ?_ | refine Yi ?_ | refine Yj ?_ | refine Yk ?_ | refine Yl ?_ | refine Ym ?_ | refine Yn ?_ | refine Yo ?_ | refine Yp (h := ?_) | refine Yq ?_ | refine Yr ?_ | refine Ys ?_ | refine Zr hc (hk := ?_) | refine Zd hc (hk := ?_) | (refine Zc (ht := fun hb => ?_) (hf := fun hb => ?_) <;> (try simp at hb)) | fail) | (first | refine run_callW hc (by simp; exact Gives.mk) (by simp; exact Gives.mk) (by simp; exact Gives.mk) (by simp; exact Gives.mk) (by simp; exact Gives.mk) (fun _ => by first | exact h1 | exact h2 | exact h3 | exact h4 | exact h5 | exact h6 | exact (show FnOk _ _ _ (str []) from by exfalso; simp_all; done)) (by simp) (by simp) ?_ | refine run_callQ hc (by simp; exact Gives.mk) (by simp; exact Gives.mk) (by simp; exact Gives.mk) (by simp; exact Gives.mk) (by simp; exact Gives.mk) (fun _ => by first | exact h1 | exact h2 | exact h3 | exact h4 | exact h5 | exact h6 | exact (show FnOk _ _ _ (str []) from by exfalso; simp_all; done)) (by simp) (by simp) ?_ | refine run_ops hc (by simp; first | exact Ends.go | exact Ends.halt) (by decide) (by first | exact True.intro | omega | assumption | (simp; done) | (simp; omega) | (simp at *; omega)) ?_ | refine run_quiet hc (by simp; first | exact Ends.go | exact Ends.halt) (by decide) (by first | exact True.intro | omega | assumption | (simp; done) | (simp; omega) | (simp at *; omega)) ?_ | refine run_regionW hc (by simp; exact Ends.halt) (by first | exact True.intro | omega | assumption | (simp; done) | (simp; omega) | (simp at *; omega)) ?_ | refine run_drawN hc (by kernel_rfl) (by decide) (by kernel_rfl) (by simp; exact Ends.halt) (by first | exact True.intro | omega | assumption | (simp; done) | (simp; omega) | (simp at *; omega)) ?_ | fail))
      all_goals try (exfalso; omega)
      all_goals try contradiction
      all_goals (refine Zl hc (hr := ?_))
      all_goals simp
end Go.Proofs.YtpmfmjgnhdfakaaGreatDoor
