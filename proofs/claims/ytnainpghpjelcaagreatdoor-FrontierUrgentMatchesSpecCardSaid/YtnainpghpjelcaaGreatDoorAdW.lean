/-
  DOMAINS: CheckSuffixes, suffix, Domain. (WITH run_drawN.)
-/
import Derived.Test.YtnainpghpjelcaaGreatDoorAdI
import Derived.Test.YtnainpghpjelcaaGreatDoorAdU
import Derived.Test.YtnainpghpjelcaaGreatDoorLwFlt
set_option linter.unusedSimpArgs false
set_option linter.unusedVariables false
namespace Go.Proofs.YtnainpghpjelcaaGreatDoor
open Go.Lw Go.RowKit
set_option maxRecDepth 100000
set_option maxHeartbeats 1000000

theorem lHasPrefix_ok (s p : Bs) : FnOk Tryz.prog 176 [str s, str p] (tru (p.isPrefixOf s)) :=
  fnOk_lits [.string (bs s), .string (bs p)] (by kernel_rfl) fun w _ => Tryz.stringslite_HasPrefix (bs s) (bs p) w
def cutP (s p : Bs) : Bs := if p <+: s then s.drop p.length else s
theorem lCutPrefix_ok (s p : Bs) : FnOk Tryz.prog 208 [str s, str p] (.tup [str (cutP s p), tru (decide (p <+: s))]) := by
  refine fnOk Tryz.func208 rfl (by kernel_rfl) Tryz.ntmps208 _ rfl (by simp) fun C hc => ?_
  have h := lHasPrefix_ok s p
  unfold cutP
  by_cases hp : p <+: s
  · rw [List.isPrefixOf_iff_prefix.2 hp] at h
    rw [if_pos hp]
    have := hp.length_le
    repeat' (first | (first | refine Ya ?_ | refine Yb ?_ | refine Yc ?_ | refine Yd ?_ | refine Ye ?_ | refine Yf ?_ | refine Yg ?_ | refine Yh ?_ | refine Yi ?_ | refine Yj ?_ | refine Yk ?_ | refine Yl ?_ | refine Ym ?_ | refine Yn ?_ | refine Yo ?_ | refine Yp (h := ?_) | refine Yq ?_ | refine Yr ?_ | refine Ys ?_ | refine Zr hc (hk := ?_) | refine Zd hc (hk := ?_) | (refine Zc (ht := fun hb => ?_) (hf := fun hb => ?_) <;> (try simp at hb)) | fail) | (first | refine Zw hc (hf := by exact h) (hk := ?_) | refine Zq hc (hf := by exact h) (hk := ?_) | refine Zo hc (hk := ?_) | refine Zu hc (hk := ?_) | refine Ze hc (hk := ?_) | refine Zn hc (hk := ?_) | fail))
    all_goals try contradiction
    (refine Zl hc (hr := ?_))
    simp [hp]
  · rw [show p.isPrefixOf s = false by rw [← Bool.not_eq_true, List.isPrefixOf_iff_prefix]; exact hp] at h
    rw [if_neg hp]
    repeat' (first | (first | refine Ya ?_ | refine Yb ?_ | refine Yc ?_ | refine Yd ?_ | refine Ye ?_ | refine Yf ?_ | refine Yg ?_ | refine Yh ?_ | refine Yi ?_ | refine Yj ?_ | refine Yk ?_ | refine Yl ?_ | refine Ym ?_ | refine Yn ?_ | refine Yo ?_ | refine Yp (h := ?_) | refine Yq ?_ | refine Yr ?_ | refine Ys ?_ | refine Zr hc (hk := ?_) | refine Zd hc (hk := ?_) | (refine Zc (ht := fun hb => ?_) (hf := fun hb => ?_) <;> (try simp at hb)) | fail) | (first | refine Zw hc (hf := by exact h) (hk := ?_) | refine Zq hc (hf := by exact h) (hk := ?_) | refine Zo hc (hk := ?_) | refine Zu hc (hk := ?_) | refine Ze hc (hk := ?_) | refine Zn hc (hk := ?_) | fail))
    all_goals try contradiction
    (refine Zl hc (hr := ?_))
    simp [hp]
theorem cutPrefix_ok (s p : Bs) : FnOk Tryz.prog 171 [str s, str p] (.tup [str (cutP s p), tru (decide (p <+: s))]) := by
  refine fnOk Tryz.func171 rfl (by kernel_rfl) Tryz.ntmps171 _ rfl (by simp) fun C hc => ?_
  repeat' (first | (first | refine Ya ?_ | refine Yb ?_ | refine Yc ?_ | refine Yd ?_ | refine Ye ?_ | refine Yf ?_ | refine Yg ?_ | refine Yh ?_ | refine Yi ?_ | refine Yj ?_ | refine Yk ?_ | refine Yl ?_ | refine Ym ?_ | refine Yn ?_ | refine Yo ?_ | refine Yp (h := ?_) | refine Yq ?_ | refine Yr ?_ | refine Ys ?_ | refine Zr hc (hk := ?_) | refine Zd hc (hk := ?_) | (refine Zc (ht := fun hb => ?_) (hf := fun hb => ?_) <;> (try simp at hb)) | fail) | (first | refine Zw hc (hf := by exact lCutPrefix_ok s p) (hk := ?_) | refine Zq hc (hf := by exact lCutPrefix_ok s p) (hk := ?_) | refine Zo hc (hk := ?_) | refine Zu hc (hk := ?_) | refine Ze hc (hk := ?_) | refine Zn hc (hk := ?_) | fail))
  (refine Zl hc (hr := ?_))
  simp
/-! The suffix. -/
theorem below_drewN (w : World) : ∀ n, Below w.heap.size w (w.drewN n)
  | 0 => by rw [World.drewN_zero]; exact Below.refl _ _
  | n + 1 => by rw [← World.drew_drewN]; exact Below.drew (below_drewN w n)
theorem cut_ok (s : Bs) (c : UInt8) (hs : s.length < 4294967281) : FnOk Tryz.prog 65 [str s, str [c]] (.tup [str (Lib.cut s [c]).1, str (Lib.cut s [c]).2.1, tru (Lib.cut s [c]).2.2]) :=
  ⟨by kernel_rfl, fun ok w vs _ hstd ha => by
    have h0 : ArgsRd w ok ([Value.string (bs s), Value.string (bs [c])].map D.lit) vs := ha
    obtain rfl : vs = #[.string (bs s), .string (bs [c])] := lits_rd h0
    obtain ⟨m, hm⟩ := hstd.2.1 0 3 .i64 (by kernel_rfl) (by kernel_rfl)
    refine (Tryz.strings_Cut (bs s) (bs [c]) m w (by simpa using hs) hm).mono fun e w' ⟨he, n, hw⟩ => ⟨_, he, ?_, ?_⟩
    · exact hw ▸ below_drewN w n
    · exact .tup _ _ (fun i => (#[Value.string (bs (Lib.cut s [c]).1), .string (bs (Lib.cut s [c]).2.1), .bool (Lib.cut s [c]).2.2])[i]?.getD undef) rfl (fun i hi => by
        match i, hi with
        | 0, _ => rfl
        | 1, _ => rfl
        | 2, _ => rfl) (fun i d hd => by
        match i, hd with
        | 0, hd => cases hd; exact .lit _
        | 1, hd => cases hd; exact .lit _
        | 2, hd => cases hd; exact .lit _)⟩
end Go.Proofs.YtnainpghpjelcaaGreatDoor
/-
  DOMAINS: Domain. (WITH run_drawN.)
-/
set_option linter.unusedSimpArgs false
set_option linter.unusedVariables false
namespace Go.Proofs.YtnainpghpjelcaaGreatDoor
open Go.Lw Go.RowKit
set_option maxRecDepth 100000
set_option maxHeartbeats 1000000

@[simp] def domD (x : Bs × Bool × Nat) : D := .tup [str x.1, tru x.2.1, int x.2.2]
end Go.Proofs.YtnainpghpjelcaaGreatDoor
