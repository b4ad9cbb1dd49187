/-
  DOMAINS: CheckSuffixes, suffix, Domain. (WITH run_drawN.)
-/
import Derived.Test.YtnainpghpjelcaaGreatDoorAdA
import Derived.Test.YtnainpghpjelcaaGreatDoorAdU
import Derived.Test.YtnainpghpjelcaaGreatDoorLwFlt
set_option linter.unusedSimpArgs false
set_option linter.unusedVariables false
namespace Go.Proofs.YtnainpghpjelcaaGreatDoor
open Go.Lw Go.RowKit
set_option maxRecDepth 100000
set_option maxHeartbeats 1000000

theorem lHasPrefix_ok (s p : Bs) : FnOk Tryz.prog 176 [str s, str p] (tru (p.isPrefixOf s)) :=
  fnOk_lits [.string (bs s), .string (bs p)] (by kernel_rfl) fun w _ => Tryz.stringslite_HasPrefix (bs s) (bs p) w
def cutP (s p : Bs) : Bs := if p <+: s then s.drop p.length else s
theorem lCutPrefix_ok (s p : Bs) : FnOk Tryz.prog 208 [str s, str p] (.tup [str (cutP s p), tru (decide (p <+: s))]) := by
  refine fnOk Tryz.func208 rfl (by kernel_rfl) Tryz.ntmps208 _ rfl (by simp) fun C hc => ?_
  have h := lHasPrefix_ok s p
  unfold cutP
  by_cases hp : p <+: s
  · rw [List.isPrefixOf_iff_prefix.2 hp] at h
    rw [if_pos hp]
    have := hp.length_le
    repeat' (first | (first | refine Ya ?_ | refine Yb ?_ | refine Yc ?_ | refine Yd ?_ | refine Ye ?_ | refine Yf ?_ | refine Yg ?_ | refine Yh ?_ | refine Yi ?_ | refine Yj ?_ | refine Yk ?_ | refine Yl ?_ | refine Ym ?_ | refine Yn ?_ | refine Yo ?_ | refine Yp (h := ?_) | refine Yq ?_ | refine Yr ?_ | refine Ys ?_ | refine Zr hc (hk := ?_) | refine Zd hc (hk := ?_) | (refine Zc (ht := fun hb => ?_) (hf := fun hb => ?_) <;> (try simp at hb)) | fail) | (first | refine Zw hc (hf := by exact h) (hk := ?_) | refine Zq hc (hf := by exact h) (hk := ?_) | refine Zo hc (hk := ?_) | refine Zu hc (hk := ?_) | refine Ze hc (hk := ?_) | refine Zn hc (hk := ?_) | fail))
    all_goals try contradiction
    (refine Zl hc (hr := ?_))
    simp [hp]
  · rw [show p.isPrefixOf s = false by rw [← Bool.not_eq_true, List.isPrefixOf_iff_prefix]; exact hp] at h
    rw [if_neg hp]
    repeat' (first | (first | refine Ya ?_ | refine Yb ?_ | refine Yc ?_ | refine Yd ?_ | refine Ye ?_ | refine Yf ?_ | refine Yg ?_ | refine Yh ?_ | refine Yi ?_ | refine Yj ?_ | refine Yk ?_ | refine Yl ?_ | refine Ym ?_ | refine Yn ?_ | refine Yo ?_ | refine Yp (h := ?_) | refine Yq ?_ | refine Yr ?_ | refine Ys ?_ | refine Zr hc (hk := ?_) | refine Zd hc (hk := ?_) | (refine Zc (ht := fun hb => ?_) (hf := fun hb => ?_) <;> (try simp at hb)) | fail) | (first | refine Zw hc (hf := by exact h) (hk := ?_) | refine Zq hc (hf := by exact h) (hk := ?_) | refine Zo hc (hk := ?_) | refine Zu hc (hk := ?_) | refine Ze hc (hk := ?_) | refine Zn hc (hk := ?_) | fail))
    all_goals try contradiction
    (refine Zl hc (hr := ?_))
    simp [hp]
theorem cutPrefix_ok (s p : Bs) : FnOk Tryz.prog 171 [str s, str p] (.tup [str (cutP s p), tru (decide (p <+: s))]) := by
  refine fnOk Tryz.func171 rfl (by kernel_rfl) Tryz.ntmps171 _ rfl (by simp) fun C hc => ?_
  repeat' (first | (first | refine Ya ?_ | refine Yb ?_ | refine Yc ?_ | refine Yd ?_ | refine Ye ?_ | refine Yf ?_ | refine Yg ?_ | refine Yh ?_ | refine Yi ?_ | refine Yj ?_ | refine Yk ?_ | refine Yl ?_ | refine Ym ?_ | refine Yn ?_ | refine Yo ?_ | refine Yp (h := ?_) | refine Yq ?_ | refine Yr ?_ | refine Ys ?_ | refine Zr hc (hk := ?_) | refine Zd hc (hk := ?_) | (refine Zc (ht := fun hb => ?_) (hf := fun hb => ?_) <;> (try simp at hb)) | fail) | (first | refine Zw hc (hf := by exact lCutPrefix_ok s p) (hk := ?_) | refine Zq hc (hf := by exact lCutPrefix_ok s p) (hk := ?_) | refine Zo hc (hk := ?_) | refine Zu hc (hk := ?_) | refine Ze hc (hk := ?_) | refine Zn hc (hk := ?_) | fail))
  (refine Zl hc (hr := ?_))
  simp
theorem sufL_len (x : Bs) (n : Nat) (h : x.length ≤ n) : (sufL x).length ≤ n := by
  unfold sufL
  split
  · simp; omega
  · split
    · simp; omega
    · exact h
theorem sufFrom_step (l : List Bs) (j : Nat) (h : j < l.length) : sufFrom l j = if isHostS (sufL (l[j]?.getD [])) = false then 3 else if 0 < j ∧ leS (l[j]?.getD []) (l[j - 1]?.getD []) = true then 8 else sufFrom l (j + 1) := by
  rw [sufFrom, if_pos h]
theorem sufFrom_end (l : List Bs) (j : Nat) (h : l.length ≤ j) : sufFrom l j = 0 := by
  rw [sufFrom, if_neg (by omega)]
/-! The suffix. -/
theorem below_drewN (w : World) : ∀ n, Below w.heap.size w (w.drewN n)
  | 0 => by rw [World.drewN_zero]; exact Below.refl _ _
  | n + 1 => by rw [← World.drew_drewN]; exact Below.drew (below_drewN w n)
theorem cut_ok (s : Bs) (c : UInt8) (hs : s.length < 4294967281) : FnOk Tryz.prog 65 [str s, str [c]] (.tup [str (Lib.cut s [c]).1, str (Lib.cut s [c]).2.1, tru (Lib.cut s [c]).2.2]) :=
  ⟨by kernel_rfl, fun ok w vs _ hstd ha => by
    have h0 : ArgsRd w ok ([Value.string (bs s), Value.string (bs [c])].map D.lit) vs := ha
    obtain rfl : vs = #[.string (bs s), .string (bs [c])] := lits_rd h0
    obtain ⟨m, hm⟩ := hstd.2.1 0 3 .i64 (by kernel_rfl) (by kernel_rfl)
    refine (Tryz.strings_Cut (bs s) (bs [c]) m w (by simpa using hs) hm).mono fun e w' ⟨he, n, hw⟩ => ⟨_, he, ?_, ?_⟩
    · exact hw ▸ below_drewN w n
    · exact .tup _ _ (fun i => (#[Value.string (bs (Lib.cut s [c]).1), .string (bs (Lib.cut s [c]).2.1), .bool (Lib.cut s [c]).2.2])[i]?.getD undef) rfl (fun i hi => by
        match i, hi with
        | 0, _ => rfl
        | 1, _ => rfl
        | 2, _ => rfl) (fun i d hd => by
        match i, hd with
        | 0, hd => cases hd; exact .lit _
        | 1, hd => cases hd; exact .lit _
        | 2, hd => cases hd; exact .lit _)⟩
theorem tail_zero (L : List Bs) : tailS L 0 = [] := by unfold tailS; rw [List.drop_of_length_le (by omega)]; rfl
theorem tail_len (L : List Bs) (n : Nat) : (tailS L n).length ≤ (Lib.join L [46]).length := by
  unfold tailS
  rcases Nat.lt_or_ge (L.length - n) L.length with h | h
  · rcases join_end 46 L (L.length - n) h with e | ⟨p, hp⟩
    · rw [e, List.drop_zero]; omega
    · rw [hp]; simp; omega
  · rw [List.drop_of_length_le h]; simp [Lib.join_nil]
theorem cut_tail (L : List Bs) (hf : ∀ x ∈ L, (46 : UInt8) ∉ x) (k : Nat) (hk : k + 1 ≤ L.length) : Lib.cut (tailS L (k + 1)) [46] = (L[L.length - (k + 1)]?.getD [], tailS L k, decide (0 < k)) := by
  unfold tailS
  rw [List.drop_eq_getElem_cons (show L.length - (k + 1) < L.length by omega), show L.length - (k + 1) + 1 = L.length - k by omega, List.getElem?_eq_getElem (show L.length - (k + 1) < L.length by omega), Option.getD_some]
  have hx := hf _ (List.getElem_mem (show L.length - (k + 1) < L.length by omega))
  generalize L[L.length - (k + 1)] = x at hx
  rcases Nat.eq_zero_or_pos k with rfl | h0
  · rw [List.drop_of_length_le (by omega), Lib.join_one, cut_one 46 x hx]
    rfl
  · rw [join_step x _ _ (by intro e; have := congrArg List.length e; simp at this; omega), List.append_assoc, List.singleton_append, cut_app 46 x _ hx, decide_eq_true h0]
theorem sl_drop (L : List Bs) (x : Int) (m : Nat) (hx : x.toNat = m) : (D.sl (L.length - x.toNat) fun i => [str (L[x.toNat + i]?.getD [])]) = strSl (L.drop m) := by
  subst hx
  simp
theorem tail_ok (L : List Bs) (n : Nat) (x : Int) (hx : x.toNat = L.length - n) (hL : L.length ≤ 1000) (hj : (Lib.join L [46]).length ≤ 1000) : FnOk Tryz.prog 207 [D.sl (L.length - x.toNat) fun i => [str (L[x.toNat + i]?.getD [])], str [46]] (str (tailS L n)) := by
  rw [sl_drop L x (L.length - n) hx]
  exact join_ok (L.drop (L.length - n)) [46] (by simp; omega) (by have := tail_len L n; unfold tailS at this; omega)
end Go.Proofs.YtnainpghpjelcaaGreatDoor
/-
  DOMAINS: Domain. (WITH run_drawN.)
-/
set_option linter.unusedSimpArgs false
set_option linter.unusedVariables false
namespace Go.Proofs.YtnainpghpjelcaaGreatDoor
open Go.Lw Go.RowKit
set_option maxRecDepth 100000
set_option maxHeartbeats 1000000

@[simp] def domD (x : Bs × Bool × Nat) : D := .tup [str x.1, tru x.2.1, int x.2.2]
theorem hostS_len {s : Bs} (h : isHostS s = true) : s.length ≤ 253 := by
  simp only [isHostS, isHostB, Bool.and_eq_true, decide_eq_true_eq] at h
  exact h.1.1
end Go.Proofs.YtnainpghpjelcaaGreatDoor
