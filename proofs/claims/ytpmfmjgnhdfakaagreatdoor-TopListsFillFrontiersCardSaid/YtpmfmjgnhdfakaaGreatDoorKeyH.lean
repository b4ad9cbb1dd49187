/-
  ADDRESS: Key without rules, OfKey; AddressKeysComeBack's own walk. (WITH run_drawN.)
-/
import Derived.Test.YtpmfmjgnhdfakaaGreatDoorKeyB
import Derived.Test.YtpmfmjgnhdfakaaGreatDoorKeyS
set_option linter.unusedSimpArgs false
set_option linter.unusedVariables false
namespace Go.Proofs.YtpmfmjgnhdfakaaGreatDoor
open Go.Lw Go.RowKit
set_option maxRecDepth 100000
set_option maxHeartbeats 2000000

theorem ofKeyF_ok (s : Bs) (hm : s.length ≤ 9223372036854775807) : FnOk Tryz.prog 70 [str s] (.tup [adrD (ofK s).1, int (ofK s).2]) := by
  refine fnOk Tryz.func70 rfl (by kernel_rfl) Tryz.ntmps70 _ rfl (by simp) fun C hc => ?_
  have h := ofKey_ok s hm
  generalize ofK s = x at h ⊢
  repeat' (first | (first | refine Ya ?_ | refine Yb ?_ | refine Yc ?_ | refine Yd ?_ | refine Ye ?_ | refine Yf ?_ | refine Yg ?_ | refine Yh ?_ | refine Yi ?_ | refine Yj ?_ | refine Yk ?_ | refine Yl ?_ | refine Ym ?_ | refine Yn ?_ | refine Yo ?_ | refine Yp (h := ?_) | refine Yq ?_ | refine Yr ?_ | refine Ys ?_ | refine Zr hc (hk := ?_) | refine Zd hc (hk := ?_) | (refine Zc (ht := fun hb => ?_) (hf := fun hb => ?_) <;> (try simp at hb)) | fail) | (first | refine Zw hc (hf := by exact h) (hk := ?_) | refine Zq hc (hf := by exact h) (hk := ?_) | refine Zo hc (hk := ?_) | refine Zu hc (hk := ?_) | refine Ze hc (hk := ?_) | refine Zn hc (hk := ?_) | fail))
  (refine Zl hc (hr := ?_))
  simp
end Go.Proofs.YtpmfmjgnhdfakaaGreatDoor
/-
  CHAPTER 1's REFERENCE: KeyOf without rules, OfKey. (WITH run_drawN.)
-/
set_option linter.unusedSimpArgs false
set_option linter.unusedVariables false
namespace Go.Proofs.YtpmfmjgnhdfakaaGreatDoor
open Go.Lw Go.RowKit
set_option maxRecDepth 100000
set_option maxHeartbeats 2000000

theorem qKey0_ok (a : Adr) (h : chkC a = 0) : FnOk Tryz.prog 148 [adrD a, noL] (str (keyC a)) := by
  refine fnOk Tryz.func148 rfl (by kernel_rfl) Tryz.ntmps148 _ rfl (by simp) fun C hc => ?_
  have hN := qNormalOf_ok a h
  obtain ⟨k1, k2, k3, k4⟩ := norm_parts h
  unfold keyC
  generalize normA a = n at hN k1 k2 k3 k4 ⊢
  have hHP := hasPrefix_ok n.host [119, 119, 119, 46]
  have hT := qTurned_ok n.host (by omega)
  have htl := turn_len n.host 46 44
  have hP := qPathOf0_ok n.path (by omega)
  have hQ := qQueryOf0_ok n.query (by omega)
  unfold keyN pPart qPart
  generalize turnP n.host 46 44 = tu at hT htl ⊢
  repeat' (first | (first | refine Ya ?_ | refine Yb ?_ | refine Yc ?_ | refine Yd ?_ | refine Ye ?_ | refine Yf ?_ | refine Yg ?_ | refine Yh ?_ | refine Yi ?_ | refine Yj ?_ | refine Yk ?_ | refine Yl ?_ | refine Ym ?_ | refine Yn ?_ | refine Yo ?_ | refine Yp (h := ?_) | refine Yq ?_ | refine Yr ?_ | refine Ys ?_ | refine Zr hc (hk := ?_) | refine Zd hc (hk := ?_) | (refine Zc (ht := fun hb => ?_) (hf := fun hb => ?_) <;> (try simp at hb)) | fail) | (first | refine Zw hc (hf := by first | exact hN | exact hHP | exact hT | exact hP | exact hQ | exact says0_ok _ _) (hk := ?_) | refine Zq hc (hf := by first | exact hN | exact hHP | exact hT | exact hP | exact hQ | exact says0_ok _ _) (hk := ?_) | refine Zo hc (hk := ?_) | refine Zu hc (hk := ?_) | refine Ze hc (hk := ?_) | refine Zn hc (hk := ?_) | fail))
  all_goals try contradiction
  all_goals rename_i g0 g1 g2
  all_goals (refine Zl hc (hr := ?_))
  all_goals simp [g1, g2, hb]
theorem ofK_none {s : Bs} (h : (41 : UInt8) ∉ s) (hl : ¬ 2000 < s.length) : ofK s = (Adr.zero, 10) := by
  rcases ofK_cases s with ⟨h1, h2⟩ | ⟨_, _, _, _, h3⟩
  · unfold ofK at h1 h2 ⊢
    rw [if_neg hl] at h1 h2 ⊢
    split
    · rfl
    · rename_i h3; rw [if_neg h3] at h1; exact absurd rfl h1
  · exfalso
    apply h
    rw [← h3]
    unfold keyN
    simp
theorem pre_one (c : UInt8) (s : Bs) : [c] <+: s → s = c :: s.tail := by
  rintro ⟨t, rfl⟩
  simp
theorem cutP_one (c : UInt8) (s : Bs) (h : [c] <+: s) : cutP s [c] = s.tail := by unfold cutP; rw [if_pos h]; simp
theorem qOfKey_ok (s : Bs) (hm : s.length ≤ 9223372036854775807) : FnOk Tryz.prog 122 [str s] (.tup [adrD (ofK s).1, int (ofK s).2]) := by
  refine fnOk Tryz.func122 rfl (by kernel_rfl) Tryz.ntmps122 _ rfl (by simp) fun C hc => ?_
  by_cases hbig : 2000 < s.length
  · unfold ofK
    rw [if_pos hbig]
    repeat' (first | (first | refine Ya ?_ | refine Yb ?_ | refine Yc ?_ | refine Yd ?_ | refine Ye ?_ | refine Yf ?_ | refine Yg ?_ | refine Yh ?_ | refine Yi ?_ | refine Yj ?_ | refine Yk ?_ | refine Yl ?_ | refine Ym ?_ | refine Yn ?_ | refine Yo ?_ | refine Yp (h := ?_) | refine Yq ?_ | refine Yr ?_ | refine Ys ?_ | refine Zr hc (hk := ?_) | refine Zd hc (hk := ?_) | (refine Zc (ht := fun hb => ?_) (hf := fun hb => ?_) <;> (try simp at hb)) | fail) | (first | refine Zo hc (hk := ?_) | refine Zu hc (hk := ?_) | refine Ze hc (hk := ?_) | refine Zn hc (hk := ?_) | fail))
    all_goals try (exfalso; omega)
    (refine Zl hc (hr := ?_))
    simp
  have h1 := cut_ok s 41 (by omega)
  have l1 := cut_len 41 s
  by_cases h41 : (41 : UInt8) ∈ s
  rotate_left
  · rw [ofK_none h41 hbig]
    rw [cut_one 41 s h41] at h1
    repeat' (first | (first | refine Ya ?_ | refine Yb ?_ | refine Yc ?_ | refine Yd ?_ | refine Ye ?_ | refine Yf ?_ | refine Yg ?_ | refine Yh ?_ | refine Yi ?_ | refine Yj ?_ | refine Yk ?_ | refine Yl ?_ | refine Ym ?_ | refine Yn ?_ | refine Yo ?_ | refine Yp (h := ?_) | refine Yq ?_ | refine Yr ?_ | refine Ys ?_ | refine Zr hc (hk := ?_) | refine Zd hc (hk := ?_) | (refine Zc (ht := fun hb => ?_) (hf := fun hb => ?_) <;> (try simp at hb)) | fail) | (first | refine Zw hc (hf := by exact h1) (hk := ?_) | refine Zq hc (hf := by exact h1) (hk := ?_) | refine Zo hc (hk := ?_) | refine Zu hc (hk := ?_) | refine Ze hc (hk := ?_) | refine Zn hc (hk := ?_) | fail))
    all_goals try (exfalso; omega)
    (refine Zl hc (hr := ?_))
    simp
  have e41 : (Lib.cut s [41]).2.2 = true := by
    rcases parted 41 s with h | ⟨x, y, rfl, h⟩
    · exact absurd h41 h
    · rw [cut_app 41 x y h]
  unfold ofK
  rw [if_neg hbig]
  have h2 := cut_ok (Lib.cut s [41]).1 58 (by omega)
  have l2 := cut_len 58 (Lib.cut s [41]).1
  have h3 := split_ok (Lib.cut (Lib.cut s [41]).1 [58]).1 44 (by omega)
  have l3 := turn_len (Lib.cut (Lib.cut s [41]).1 [58]).1 44 46
  have hne := split_ne 44 (Lib.cut (Lib.cut s [41]).1 [58]).1
  have hlen := split_len (Lib.cut (Lib.cut s [41]).1 [58]).1 44
  have h4 := hasPrefix_ok (Lib.cut s [41]).2.1 [115]
  have l4 := cutP_len (Lib.cut s [41]).2.1 [115]
  have h5 := cut_ok (cutP (Lib.cut s [41]).2.1 [115]) 63 (by omega)
  have l5 := cut_len 63 (cutP (Lib.cut s [41]).2.1 [115])
  have hF : (decK s).1.Fits := ⟨by unfold decK; simp only; split <;> simp, by unfold decK; simp only; omega, by unfold decK; simp only; omega, by unfold decK; simp only; omega, by unfold decK; simp only; omega, by simp [decK]⟩
  have h6 := qCheck_ok (decK s).1 hF
  have h7 := qKey0_ok (decK s).1
  have hkp : ((decK s).2 = true ∧ (decK s).1.port = []) → chkC (decK s).1 = 0 → keyC (decK s).1 ≠ s := by
    intro hp hc0 e
    have hd := dec_key (good_norm ((chk_iff _).1 hc0).1)
    have e' : keyN (normA (decK s).1) = s := e
    rw [e'] at hd
    have e2 := congrArg Prod.snd hd
    have e1 := congrArg Prod.fst hd
    rw [hp.1] at e2
    exact (of_decide_eq_true e2.symm) ((congrArg Adr.port e1.symm).trans hp.2)
  unfold decK at h6 h7 hkp ⊢
  by_cases hs : [115] <+: (Lib.cut s [41]).2.1
  · rw [List.isPrefixOf_iff_prefix.2 hs] at h4
    have hpr := pre_one 115 _ hs
    rw [cutP_one 115 _ hs] at h5 h6 h7 hkp ⊢
    simp only at h6 h7 hkp ⊢
    rw [if_pos hs] at h6 h7 hkp ⊢
    have hho : (turnP (Lib.cut (Lib.cut s [41]).1 [58]).1 44 46).length ≤ 2000 := by omega
    have hLb : (Lib.split (Lib.cut (Lib.cut s [41]).1 [58]).1 [44]).length ≤ 2002 := by omega
    clear l1 l2 l3 l4 l5 hF hm
    generalize keyC _ = kk at h7 hkp ⊢
    generalize chkC _ = cc at h6 h7 hkp ⊢
    generalize Lib.cut ((Lib.cut s [41]).2.1.tail) [63] = z3 at h5 h6 h7 ⊢
    unfold turnP at h6 h7 hho ⊢
    generalize Lib.split (Lib.cut (Lib.cut s [41]).1 [58]).1 [44] = L at h3 hne hlen hLb h6 h7 hho ⊢
    generalize Lib.cut (Lib.cut s [41]).1 [58] = z2 at h2 h3 h6 h7 hkp hlen ⊢
    generalize Lib.cut s [41] = z1 at h1 h2 h4 h5 h6 h7 hs e41 hpr ⊢
    rw [e41] at h1
    have hL1 : 1 ≤ L.length := List.length_pos_iff.2 hne
    have hrev : ∀ r, r < L.length → L.reverse[r]?.getD [] = L[L.length - 1 - r]?.getD [] := fun r hr => by rw [List.getElem?_reverse hr]
    have hMl : L.reverse.length = L.length := by simp
    have hMn : L.reverse ≠ [] := by simpa using hne
    have hj := signed_join 46 L.reverse hMn
    have hsl := signed_len 46 L.reverse
    have hsn := signed_next 46 L.reverse
    rw [hMl] at hj hsl hsn
    generalize L.reverse = M at hrev hMl hMn hj hsl hsn hho h6 h7 ⊢
    have hl1 : 1 ≤ z1.2.1.length := by rw [hpr]; simp
    clear hpr
    repeat' (first | (first | refine Ya ?_ | refine Yb ?_ | refine Yc ?_ | refine Yd ?_ | refine Ye ?_ | refine Yf ?_ | refine Yg ?_ | refine Yh ?_ | refine Yi ?_ | refine Yj ?_ | refine Yk ?_ | refine Yl ?_ | refine Ym ?_ | refine Yn ?_ | refine Yo ?_ | refine Yp (h := ?_) | refine Yq ?_ | refine Yr ?_ | refine Ys ?_ | refine Zr hc (hk := ?_) | refine Zd hc (hk := ?_) | (refine Zc (ht := fun hb => ?_) (hf := fun hb => ?_) <;> (try simp at hb)) | fail) | (first | refine Zw hc (hf := by first | exact h1 | exact h2 | exact h3 | exact h4) (hk := ?_) | refine Zq hc (hf := by first | exact h1 | exact h2 | exact h3 | exact h4) (hk := ?_) | refine Zo hc (hk := ?_) | refine Zu hc (hk := ?_) | refine Ze hc (hk := ?_) | refine Zn hc (hk := ?_) | fail))
    all_goals try (exfalso; omega)
    all_goals try contradiction
    (apply run_drawAny 5 hc (by kernel_rfl) rfl; (focus (refine run_anyM 0 hc rfl (by kernel_rfl) rfl (by first | exact .inl rfl | exact .inr rfl) (by simp; exact Gives.mk) (by simp) (by simp; exact Gives.mk) ?_; refine run_anyP 2 hc rfl (by kernel_rfl) rfl (by simp; exact Gives.mk) (by first | exact True.intro | omega | (simp; done) | (simp; omega) | (simp at *; omega)) (by simp) (by simp) (by simp; exact Gives.mk) ?_; refine anyW_all [1, 3] (by kernel_rfl) rfl ?_; refine ⟨?_, ?_⟩; (focus (refine run_stepW hc rfl (by simp; exact Ends.go) (by first | exact True.intro | omega | (simp; done) | (simp; omega) | (simp at *; omega)) ?_; refine anyW_all [3] (by kernel_rfl) rfl ?_; (focus (refine run_stepW hc rfl (by simp; exact Ends.go) (by first | exact True.intro | omega | (simp; done) | (simp; omega) | (simp at *; omega)) ?_; refine run_anyM 4 hc rfl (by kernel_rfl) rfl (by first | exact .inl rfl | exact .inr rfl) (by simp; exact Gives.mk) (by simp) (by simp; exact Gives.mk) ?_; refine anyW_done (by kernel_rfl) ?_; exact run_keep [0, 2, 4, 5, 7] [2, 7] (by simp; try exact Gives.mk) (by simp; try exact Gives.mk))))); (focus (refine run_stepW hc rfl (by simp; exact Ends.go) (by first | exact True.intro | omega | (simp; done) | (simp; omega) | (simp at *; omega)) ?_; refine anyW_all [1] (by kernel_rfl) rfl ?_; (focus (refine run_stepW hc rfl (by simp; exact Ends.go) (by first | exact True.intro | omega | (simp; done) | (simp; omega) | (simp at *; omega)) ?_; refine run_anyM 4 hc rfl (by kernel_rfl) rfl (by first | exact .inl rfl | exact .inr rfl) (by simp; exact Gives.mk) (by simp) (by simp; exact Gives.mk) ?_; refine anyW_done (by kernel_rfl) ?_; exact run_back [0, 2, 4, 5, 7] [2, 7] (by simp; exact Gives.mk) (by simp; exact Gives.mk) (by simp))))))))
    repeat' (first | (first | refine Ya ?_ | refine Yb ?_ | refine Yc ?_ | refine Yd ?_ | refine Ye ?_ | refine Yf ?_ | refine Yg ?_ | refine Yh ?_ | refine Yi ?_ | refine Yj ?_ | refine Yk ?_ | refine Yl ?_ | refine Ym ?_ | refine Yn ?_ | refine Yo ?_ | refine Yp (h := ?_) | refine Yq ?_ | refine Yr ?_ | refine Ys ?_ | refine Zr hc (hk := ?_) | refine Zd hc (hk := ?_) | (refine Zc (ht := fun hb => ?_) (hf := fun hb => ?_) <;> (try simp at hb)) | fail) | (first | refine Zw hc (hf := by first | exact h2 | exact h3) (hk := ?_) | refine Zq hc (hf := by first | exact h2 | exact h3) (hk := ?_) | refine Zo hc (hk := ?_) | refine Zu hc (hk := ?_) | refine Ze hc (hk := ?_) | refine Zn hc (hk := ?_) | fail))
    all_goals try (exfalso; omega)
    all_goals try contradiction
    refine ewp_loop (fun m : Nat => ⟨[(0, .d (str s)), (2, .bp 2 0), (5, .d (str (z1.2.1.tail))), (7, .bp 7 0), (11, .d (strSl L)), (12, .d (int ((m : Int) - 1)))],
      [(2, .box 26 ((adrL Adr.zero).map V.d)), (7, .box 26 ((adrL ⟨httpsB, if 0 < m then signed 46 M (L.length - m) else Lib.join M [46], z2.2.1, [], [], false, [], false⟩).map V.d))]⟩) (fun m => m ≤ L.length) (fun m => m) L.length (by simp) (run_back [0, 2, 5, 7, 11, 12] [2, 7] (by simp; exact Gives.mk) (by simp; exact Gives.mk) (by rw [if_pos (by omega)]; simp [signed])) ?_
    intro m hm
    by_cases hlt : 0 < m
    · have g1 := hrev (L.length - m) (by omega)
      have g2 := hsl (L.length - m) (by omega)
      have g3 := hsn (L.length - m) (by omega)
      rw [show L.length - 1 - (L.length - m) = m - 1 by omega] at g1
      rw [g1] at g2 g3
      rw [if_pos hlt]
      simp only [List.length_append] at g2
      repeat' (first | (first | refine Ya ?_ | refine Yb ?_ | refine Yc ?_ | refine Yd ?_ | refine Ye ?_ | refine Yf ?_ | refine Yg ?_ | refine Yh ?_ | refine Yi ?_ | refine Yj ?_ | refine Yk ?_ | refine Yl ?_ | refine Ym ?_ | refine Yn ?_ | refine Yo ?_ | refine Yp (h := ?_) | refine Yq ?_ | refine Yr ?_ | refine Ys ?_ | refine Zr hc (hk := ?_) | refine Zd hc (hk := ?_) | (refine Zc (ht := fun hb => ?_) (hf := fun hb => ?_) <;> (try simp at hb)) | fail) | (refine run_drawT 6 hc (by kernel_rfl) (by kernel_rfl) ?_; try simp only [List.take_succ_cons, List.take_zero, List.drop_succ_cons, List.drop_zero]) | (first | refine Zo hc (hk := ?_) | refine Zu hc (hk := ?_) | refine Ze hc (hk := ?_) | refine Zn hc (hk := ?_) | fail))
      all_goals try (exfalso; omega)
      · refine ⟨m - 1, by omega, by omega, run_back [0, 2, 5, 7, 11, 12] [2, 7] (by simp; exact Gives.mk) (by simp; exact Gives.mk) ?_⟩
        rw [if_pos (by omega), show L.length - (m - 1) = L.length - m + 1 by omega, g3]
        simp
        omega
      · have em : m = 1 := by omega
        subst em
        refine ⟨0, by omega, by omega, run_back [0, 2, 5, 7, 11, 12] [2, 7] (by simp; exact Gives.mk) (by simp; exact Gives.mk) ?_⟩
        rw [if_neg (Nat.lt_irrefl 0), ← hj, ← g1]
        simp
    · obtain rfl : m = 0 := by omega
      rw [if_neg (Nat.lt_irrefl 0)]
      by_cases hcc : cc = 0
      · have h8 := h7 hcc
        clear h7
        subst hcc
        repeat' (first | (first | refine Ya ?_ | refine Yb ?_ | refine Yc ?_ | refine Yd ?_ | refine Ye ?_ | refine Yf ?_ | refine Yg ?_ | refine Yh ?_ | refine Yi ?_ | refine Yj ?_ | refine Yk ?_ | refine Yl ?_ | refine Ym ?_ | refine Yn ?_ | refine Yo ?_ | refine Yp (h := ?_) | refine Yq ?_ | refine Yr ?_ | refine Ys ?_ | refine Zr hc (hk := ?_) | refine Zd hc (hk := ?_) | (refine Zc (ht := fun hb => ?_) (hf := fun hb => ?_) <;> (try simp at hb)) | fail) | (first | refine Zw hc (hf := by first | exact h5 | exact h6 | exact h8) (hk := ?_) | refine Zq hc (hf := by first | exact h5 | exact h6 | exact h8) (hk := ?_) | refine Zo hc (hk := ?_) | refine Zu hc (hk := ?_) | refine Ze hc (hk := ?_) | refine Zn hc (hk := ?_) | fail))
        all_goals try (exfalso; omega)
        all_goals try contradiction
        · rw [if_pos (.inr (.inr hb))]
          (refine Zl hc (hr := ?_))
          simp
        · rw [if_neg (fun e => by
            rcases e with h | h | h
            · exact hkp h rfl (by first | exact hb | simpa using hb)
            · exact h rfl
            · exact h (by first | exact hb | simpa using hb))]
          (refine Zl hc (hr := ?_))
          simp
      · clear h7
        repeat' (first | (first | refine Ya ?_ | refine Yb ?_ | refine Yc ?_ | refine Yd ?_ | refine Ye ?_ | refine Yf ?_ | refine Yg ?_ | refine Yh ?_ | refine Yi ?_ | refine Yj ?_ | refine Yk ?_ | refine Yl ?_ | refine Ym ?_ | refine Yn ?_ | refine Yo ?_ | refine Yp (h := ?_) | refine Yq ?_ | refine Yr ?_ | refine Ys ?_ | refine Zr hc (hk := ?_) | refine Zd hc (hk := ?_) | (refine Zc (ht := fun hb => ?_) (hf := fun hb => ?_) <;> (try simp at hb)) | fail) | (first | refine run_callW hc (by simp; exact Gives.mk) (by simp; exact Gives.mk) (by simp; exact Gives.mk) (by simp; exact Gives.mk) (by simp; exact Gives.mk) (fun _ => by first | exact h5 | exact h6 | exact (show FnOk _ _ _ (str []) from by exfalso; first | (simp_all; done) | (simp at *; omega))) (by simp) (by simp) ?_ | refine run_callQ hc (by simp; exact Gives.mk) (by simp; exact Gives.mk) (by simp; exact Gives.mk) (by simp; exact Gives.mk) (by simp; exact Gives.mk) (fun _ => by first | exact h5 | exact h6 | exact (show FnOk _ _ _ (str []) from by exfalso; first | (simp_all; done) | (simp at *; omega))) (by simp) (by simp) ?_ | refine run_ops hc (by simp; first | exact Ends.go | exact Ends.halt) (by decide) (by first | exact True.intro | omega | assumption | (simp; done) | (simp; omega) | (simp at *; omega)) ?_ | refine run_quiet hc (by simp; first | exact Ends.go | exact Ends.halt) (by decide) (by first | exact True.intro | omega | assumption | (simp; done) | (simp; omega) | (simp at *; omega)) ?_ | refine run_regionW hc (by simp; exact Ends.halt) (by first | exact True.intro | omega | assumption | (simp; done) | (simp; omega) | (simp at *; omega)) ?_ | refine run_drawN hc (by kernel_rfl) (by decide) (by kernel_rfl) (by simp; exact Ends.halt) (by first | exact True.intro | omega | assumption | (simp; done) | (simp; omega) | (simp at *; omega)) ?_ | fail))
        all_goals try (exfalso; omega)
        all_goals try contradiction
        all_goals rw [if_pos (.inr (.inl hcc))]
        all_goals (refine Zl hc (hr := ?_))
        all_goals simp
  · rw [Bool.eq_false_iff.2 fun e => hs (List.isPrefixOf_iff_prefix.1 e)] at h4
    rw [show cutP (Lib.cut s [41]).2.1 [115] = (Lib.cut s [41]).2.1 by unfold cutP; rw [if_neg hs]] at h5 h6 h7 hkp l5 ⊢
    simp only at h6 h7 hkp ⊢
    rw [if_neg hs] at h6 h7 hkp ⊢
    have hho : (turnP (Lib.cut (Lib.cut s [41]).1 [58]).1 44 46).length ≤ 2000 := by omega
    have hLb : (Lib.split (Lib.cut (Lib.cut s [41]).1 [58]).1 [44]).length ≤ 2002 := by omega
    clear l1 l2 l3 l4 l5 hF hm
    generalize keyC _ = kk at h7 hkp ⊢
    generalize chkC _ = cc at h6 h7 hkp ⊢
    generalize Lib.cut ((Lib.cut s [41]).2.1) [63] = z3 at h5 h6 h7 ⊢
    unfold turnP at h6 h7 hho ⊢
    generalize Lib.split (Lib.cut (Lib.cut s [41]).1 [58]).1 [44] = L at h3 hne hlen hLb h6 h7 hho ⊢
    generalize Lib.cut (Lib.cut s [41]).1 [58] = z2 at h2 h3 h6 h7 hkp hlen ⊢
    generalize Lib.cut s [41] = z1 at h1 h2 h4 h5 h6 h7 hs e41 ⊢
    rw [e41] at h1
    have hL1 : 1 ≤ L.length := List.length_pos_iff.2 hne
    have hrev : ∀ r, r < L.length → L.reverse[r]?.getD [] = L[L.length - 1 - r]?.getD [] := fun r hr => by rw [List.getElem?_reverse hr]
    have hMl : L.reverse.length = L.length := by simp
    have hMn : L.reverse ≠ [] := by simpa using hne
    have hj := signed_join 46 L.reverse hMn
    have hsl := signed_len 46 L.reverse
    have hsn := signed_next 46 L.reverse
    rw [hMl] at hj hsl hsn
    generalize L.reverse = M at hrev hMl hMn hj hsl hsn hho h6 h7 ⊢
    repeat' (first | (first | refine Ya ?_ | refine Yb ?_ | refine Yc ?_ | refine Yd ?_ | refine Ye ?_ | refine Yf ?_ | refine Yg ?_ | refine Yh ?_ | refine Yi ?_ | refine Yj ?_ | refine Yk ?_ | refine Yl ?_ | refine Ym ?_ | refine Yn ?_ | refine Yo ?_ | refine Yp (h := ?_) | refine Yq ?_ | refine Yr ?_ | refine Ys ?_ | refine Zr hc (hk := ?_) | refine Zd hc (hk := ?_) | (refine Zc (ht := fun hb => ?_) (hf := fun hb => ?_) <;> (try simp at hb)) | fail) | (first | refine Zw hc (hf := by first | exact h1 | exact h2 | exact h3 | exact h4) (hk := ?_) | refine Zq hc (hf := by first | exact h1 | exact h2 | exact h3 | exact h4) (hk := ?_) | refine Zo hc (hk := ?_) | refine Zu hc (hk := ?_) | refine Ze hc (hk := ?_) | refine Zn hc (hk := ?_) | fail))
    all_goals try (exfalso; omega)
    all_goals try contradiction
    refine ewp_loop (fun m : Nat => ⟨[(0, .d (str s)), (2, .bp 2 0), (5, .d (str (z1.2.1))), (7, .bp 7 0), (11, .d (strSl L)), (12, .d (int ((m : Int) - 1)))],
      [(2, .box 26 ((adrL Adr.zero).map V.d)), (7, .box 26 ((adrL ⟨httpB, if 0 < m then signed 46 M (L.length - m) else Lib.join M [46], z2.2.1, [], [], false, [], false⟩).map V.d))]⟩) (fun m => m ≤ L.length) (fun m => m) L.length (by simp) (run_back [0, 2, 5, 7, 11, 12] [2, 7] (by simp; exact Gives.mk) (by simp; exact Gives.mk) (by rw [if_pos (by omega)]; simp [signed])) ?_
    intro m hm
    by_cases hlt : 0 < m
    · have g1 := hrev (L.length - m) (by omega)
      have g2 := hsl (L.length - m) (by omega)
      have g3 := hsn (L.length - m) (by omega)
      rw [show L.length - 1 - (L.length - m) = m - 1 by omega] at g1
      rw [g1] at g2 g3
      rw [if_pos hlt]
      simp only [List.length_append] at g2
      repeat' (first | (first | refine Ya ?_ | refine Yb ?_ | refine Yc ?_ | refine Yd ?_ | refine Ye ?_ | refine Yf ?_ | refine Yg ?_ | refine Yh ?_ | refine Yi ?_ | refine Yj ?_ | refine Yk ?_ | refine Yl ?_ | refine Ym ?_ | refine Yn ?_ | refine Yo ?_ | refine Yp (h := ?_) | refine Yq ?_ | refine Yr ?_ | refine Ys ?_ | refine Zr hc (hk := ?_) | refine Zd hc (hk := ?_) | (refine Zc (ht := fun hb => ?_) (hf := fun hb => ?_) <;> (try simp at hb)) | fail) | (refine run_drawT 6 hc (by kernel_rfl) (by kernel_rfl) ?_; try simp only [List.take_succ_cons, List.take_zero, List.drop_succ_cons, List.drop_zero]) | (first | refine Zo hc (hk := ?_) | refine Zu hc (hk := ?_) | refine Ze hc (hk := ?_) | refine Zn hc (hk := ?_) | fail))
      all_goals try (exfalso; omega)
      · refine ⟨m - 1, by omega, by omega, run_back [0, 2, 5, 7, 11, 12] [2, 7] (by simp; exact Gives.mk) (by simp; exact Gives.mk) ?_⟩
        rw [if_pos (by omega), show L.length - (m - 1) = L.length - m + 1 by omega, g3]
        simp
        omega
      · have em : m = 1 := by omega
        subst em
        refine ⟨0, by omega, by omega, run_back [0, 2, 5, 7, 11, 12] [2, 7] (by simp; exact Gives.mk) (by simp; exact Gives.mk) ?_⟩
        rw [if_neg (Nat.lt_irrefl 0), ← hj, ← g1]
        simp
    · obtain rfl : m = 0 := by omega
      rw [if_neg (Nat.lt_irrefl 0)]
      by_cases hcc : cc = 0
      · have h8 := h7 hcc
        clear h7
        subst hcc
        repeat' (first | (first | refine Ya ?_ | refine Yb ?_ | refine Yc ?_ | refine Yd ?_ | refine Ye ?_ | refine Yf ?_ | refine Yg ?_ | refine Yh ?_ | refine Yi ?_ | refine Yj ?_ | refine Yk ?_ | refine Yl ?_ | refine Ym ?_ | refine Yn ?_ | refine Yo ?_ | refine Yp (h := ?_) | refine Yq ?_ | refine Yr ?_ | refine Ys ?_ | refine Zr hc (hk := ?_) | refine Zd hc (hk := ?_) | (refine Zc (ht := fun hb => ?_) (hf := fun hb => ?_) <;> (try simp at hb)) | fail) | (first | refine Zw hc (hf := by first | exact h5 | exact h6 | exact h8) (hk := ?_) | refine Zq hc (hf := by first | exact h5 | exact h6 | exact h8) (hk := ?_) | refine Zo hc (hk := ?_) | refine Zu hc (hk := ?_) | refine Ze hc (hk := ?_) | refine Zn hc (hk := ?_) | fail))
        all_goals try (exfalso; omega)
        all_goals try contradiction
        · rw [if_pos (.inr (.inr hb))]
          (refine Zl hc (hr := ?_))
          simp
        · rw [if_neg (fun e => by
            rcases e with h | h | h
            · exact hkp h rfl (by first | exact hb | simpa using hb)
            · exact h rfl
            · exact h (by first | exact hb | simpa using hb))]
          (refine Zl hc (hr := ?_))
          simp
      · clear h7
        repeat' (first | (first | refine Ya ?_ | refine Yb ?_ | refine Yc ?_ | refine Yd ?_ | refine Ye ?_ | refine Yf ?_ | refine Yg ?_ | refine Yh ?_ | refine Yi ?_ | refine Yj ?_ | refine Yk ?_ | refine Yl ?_ | refine Ym ?_ | refine Yn ?_ | refine Yo ?_ | refine Yp (h := ?_) | refine Yq ?_ | refine Yr ?_ | refine Ys ?_ | refine Zr hc (hk := ?_) | refine Zd hc (hk := ?_) | (refine Zc (ht := fun hb => ?_) (hf := fun hb => ?_) <;> (try simp at hb)) | fail) | (first | refine run_callW hc (by simp; exact Gives.mk) (by simp; exact Gives.mk) (by simp; exact Gives.mk) (by simp; exact Gives.mk) (by simp; exact Gives.mk) (fun _ => by first | exact h5 | exact h6 | exact (show FnOk _ _ _ (str []) from by exfalso; first | (simp_all; done) | (simp at *; omega))) (by simp) (by simp) ?_ | refine run_callQ hc (by simp; exact Gives.mk) (by simp; exact Gives.mk) (by simp; exact Gives.mk) (by simp; exact Gives.mk) (by simp; exact Gives.mk) (fun _ => by first | exact h5 | exact h6 | exact (show FnOk _ _ _ (str []) from by exfalso; first | (simp_all; done) | (simp at *; omega))) (by simp) (by simp) ?_ | refine run_ops hc (by simp; first | exact Ends.go | exact Ends.halt) (by decide) (by first | exact True.intro | omega | assumption | (simp; done) | (simp; omega) | (simp at *; omega)) ?_ | refine run_quiet hc (by simp; first | exact Ends.go | exact Ends.halt) (by decide) (by first | exact True.intro | omega | assumption | (simp; done) | (simp; omega) | (simp at *; omega)) ?_ | refine run_regionW hc (by simp; exact Ends.halt) (by first | exact True.intro | omega | assumption | (simp; done) | (simp; omega) | (simp at *; omega)) ?_ | refine run_drawN hc (by kernel_rfl) (by decide) (by kernel_rfl) (by simp; exact Ends.halt) (by first | exact True.intro | omega | assumption | (simp; done) | (simp; omega) | (simp at *; omega)) ?_ | fail))
        all_goals try (exfalso; omega)
        all_goals try contradiction
        all_goals rw [if_pos (.inr (.inl hcc))]
        all_goals (refine Zl hc (hr := ?_))
        all_goals simp
end Go.Proofs.YtpmfmjgnhdfakaaGreatDoor
/-
  ADDRESS, PROGRAM AND REFERENCE: HostOf; AddressOfKeysMatchSpec. (WITH run_drawN.)
-/
set_option linter.unusedSimpArgs false
set_option linter.unusedVariables false
namespace Go.Proofs.YtpmfmjgnhdfakaaGreatDoor
open Go.Lw Go.RowKit
set_option maxRecDepth 100000
set_option maxHeartbeats 2000000

/-- What of a key stands before the ). -/
def hostK (s : Bs) : Bs := (Lib.cut s [41]).1
def hostC (s : Bs) : Bs × Nat := if (ofK s).2 = 0 then (hostK s, 0) else ([], (ofK s).2)
theorem of_has {s : Bs} (h : (ofK s).2 = 0) : (41 : UInt8) ∈ s := by
  rcases ofK_cases s with h1 | ⟨_, _, _, _, h3⟩
  · exact absurd h h1.1
  · rw [← h3]
    unfold keyN
    simp
theorem host_take {s : Bs} (h : (41 : UInt8) ∈ s) : ∃ n : Nat, n ≤ s.length ∧ Lib.indexByte s 41 = (n : Int) ∧ s.take n = hostK s := by
  rcases parted 41 s with h1 | ⟨x, y, rfl, h1⟩
  · exact absurd h h1
  · refine ⟨x.length, by simp, ?_, ?_⟩
    · rw [← Lib.index_one]; exact ix_app 41 x y h1
    · unfold hostK
      rw [cut_app 41 x y h1]
      simp
theorem hostOf_ok (s : Bs) (h : (41 : UInt8) ∈ s) (hm : s.length ≤ 9223372036854775807) : FnOk Tryz.prog 25 [str s] (str (hostK s)) := by
  refine fnOk Tryz.func25 rfl (by kernel_rfl) Tryz.ntmps25 _ rfl (by simp) fun C hc => ?_
  have h1 := indexByte_ok s 41
  obtain ⟨n, hn, e, et⟩ := host_take h
  rw [e] at h1
  rw [← et]
  repeat' (first | (first | refine Ya ?_ | refine Yb ?_ | refine Yc ?_ | refine Yd ?_ | refine Ye ?_ | refine Yf ?_ | refine Yg ?_ | refine Yh ?_ | refine Yi ?_ | refine Yj ?_ | refine Yk ?_ | refine Yl ?_ | refine Ym ?_ | refine Yn ?_ | refine Yo ?_ | refine Yp (h := ?_) | refine Yq ?_ | refine Yr ?_ | refine Ys ?_ | refine Zr hc (hk := ?_) | refine Zd hc (hk := ?_) | (refine Zc (ht := fun hb => ?_) (hf := fun hb => ?_) <;> (try simp at hb)) | fail) | (first | refine Zw hc (hf := by exact h1) (hk := ?_) | refine Zq hc (hf := by exact h1) (hk := ?_) | refine Zo hc (hk := ?_) | refine Zu hc (hk := ?_) | refine Ze hc (hk := ?_) | refine Zn hc (hk := ?_) | fail))
  (refine Zl hc (hr := ?_))
  simp
theorem hostF_ok (s : Bs) (hm : s.length ≤ 9223372036854775807) : FnOk Tryz.prog 7 [str s] (.tup [str (hostC s).1, int (hostC s).2]) := by
  refine fnOk Tryz.func7 rfl (by kernel_rfl) Tryz.ntmps7 _ rfl (by simp) fun C hc => ?_
  have h1 := ofKey_ok s hm
  unfold hostC
  by_cases h0 : (ofK s).2 = 0
  · have h2 := hostOf_ok s (of_has h0) hm
    rw [if_pos h0]
    rw [h0] at h1
    generalize (ofK s).1 = a at h1
    generalize hostK s = r at h2 ⊢
    repeat' (first | (first | refine Ya ?_ | refine Yb ?_ | refine Yc ?_ | refine Yd ?_ | refine Ye ?_ | refine Yf ?_ | refine Yg ?_ | refine Yh ?_ | refine Yi ?_ | refine Yj ?_ | refine Yk ?_ | refine Yl ?_ | refine Ym ?_ | refine Yn ?_ | refine Yo ?_ | refine Yp (h := ?_) | refine Yq ?_ | refine Yr ?_ | refine Ys ?_ | refine Zr hc (hk := ?_) | refine Zd hc (hk := ?_) | (refine Zc (ht := fun hb => ?_) (hf := fun hb => ?_) <;> (try simp at hb)) | fail) | (first | refine Zw hc (hf := by first | exact h1 | exact h2) (hk := ?_) | refine Zq hc (hf := by first | exact h1 | exact h2) (hk := ?_) | refine Zo hc (hk := ?_) | refine Zu hc (hk := ?_) | refine Ze hc (hk := ?_) | refine Zn hc (hk := ?_) | fail))
    all_goals try contradiction
    (refine Zl hc (hr := ?_))
    simp
  · rw [if_neg h0]
    generalize (ofK s).1 = a at h1
    generalize (ofK s).2 = f at h0 h1 ⊢
    repeat' (first | (first | refine Ya ?_ | refine Yb ?_ | refine Yc ?_ | refine Yd ?_ | refine Ye ?_ | refine Yf ?_ | refine Yg ?_ | refine Yh ?_ | refine Yi ?_ | refine Yj ?_ | refine Yk ?_ | refine Yl ?_ | refine Ym ?_ | refine Yn ?_ | refine Yo ?_ | refine Yp (h := ?_) | refine Yq ?_ | refine Yr ?_ | refine Ys ?_ | refine Zr hc (hk := ?_) | refine Zd hc (hk := ?_) | (refine Zc (ht := fun hb => ?_) (hf := fun hb => ?_) <;> (try simp at hb)) | fail) | (first | refine Zw hc (hf := by exact h1) (hk := ?_) | refine Zq hc (hf := by exact h1) (hk := ?_) | refine Zo hc (hk := ?_) | refine Zu hc (hk := ?_) | refine Ze hc (hk := ?_) | refine Zn hc (hk := ?_) | fail))
    all_goals try contradiction
    (refine Zl hc (hr := ?_))
    simp
theorem qHostF_ok (s : Bs) (hm : s.length ≤ 9223372036854775807) : FnOk Tryz.prog 91 [str s] (.tup [str (hostC s).1, int (hostC s).2]) := by
  refine fnOk Tryz.func91 rfl (by kernel_rfl) Tryz.ntmps91 _ rfl (by simp) fun C hc => ?_
  have h1 := qOfKey_ok s hm
  unfold hostC
  by_cases h0 : (ofK s).2 = 0
  · have h2 := indexByte_ok s 41
    obtain ⟨n, hn, e, et⟩ := host_take (of_has h0)
    rw [e] at h2
    rw [if_pos h0, ← et]
    rw [h0] at h1
    generalize (ofK s).1 = a at h1
    repeat' (first | (first | refine Ya ?_ | refine Yb ?_ | refine Yc ?_ | refine Yd ?_ | refine Ye ?_ | refine Yf ?_ | refine Yg ?_ | refine Yh ?_ | refine Yi ?_ | refine Yj ?_ | refine Yk ?_ | refine Yl ?_ | refine Ym ?_ | refine Yn ?_ | refine Yo ?_ | refine Yp (h := ?_) | refine Yq ?_ | refine Yr ?_ | refine Ys ?_ | refine Zr hc (hk := ?_) | refine Zd hc (hk := ?_) | (refine Zc (ht := fun hb => ?_) (hf := fun hb => ?_) <;> (try simp at hb)) | fail) | (first | refine Zw hc (hf := by first | exact h1 | exact h2) (hk := ?_) | refine Zq hc (hf := by first | exact h1 | exact h2) (hk := ?_) | refine Zo hc (hk := ?_) | refine Zu hc (hk := ?_) | refine Ze hc (hk := ?_) | refine Zn hc (hk := ?_) | fail))
    all_goals try contradiction
    (refine Zl hc (hr := ?_))
    simp
  · rw [if_neg h0]
    generalize (ofK s).1 = a at h1
    generalize (ofK s).2 = f at h0 h1 ⊢
    repeat' (first | (first | refine Ya ?_ | refine Yb ?_ | refine Yc ?_ | refine Yd ?_ | refine Ye ?_ | refine Yf ?_ | refine Yg ?_ | refine Yh ?_ | refine Yi ?_ | refine Yj ?_ | refine Yk ?_ | refine Yl ?_ | refine Ym ?_ | refine Yn ?_ | refine Yo ?_ | refine Yp (h := ?_) | refine Yq ?_ | refine Yr ?_ | refine Ys ?_ | refine Zr hc (hk := ?_) | refine Zd hc (hk := ?_) | (refine Zc (ht := fun hb => ?_) (hf := fun hb => ?_) <;> (try simp at hb)) | fail) | (first | refine Zw hc (hf := by exact h1) (hk := ?_) | refine Zq hc (hf := by exact h1) (hk := ?_) | refine Zo hc (hk := ?_) | refine Zu hc (hk := ?_) | refine Ze hc (hk := ?_) | refine Zn hc (hk := ?_) | fail))
    all_goals try contradiction
    (refine Zl hc (hr := ?_))
    simp
end Go.Proofs.YtpmfmjgnhdfakaaGreatDoor
