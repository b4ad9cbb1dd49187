/-
  ADDRESS: Key without rules, OfKey; AddressKeysComeBack's own walk. (WITH run_drawN.)
-/
import Derived.Test.YtnainpghpjelcaaGreatDoorKeyB
import Derived.Test.YtnainpghpjelcaaGreatDoorKeyS
set_option linter.unusedSimpArgs false
set_option linter.unusedVariables false
namespace Go.Proofs.YtnainpghpjelcaaGreatDoor
open Go.Lw Go.RowKit
set_option maxRecDepth 100000
set_option maxHeartbeats 2000000

theorem ofKeyF_ok (s : Bs) (hm : s.length ≤ 9223372036854775807) : FnOk Tryz.prog 62 [str s] (.tup [adrD (ofK s).1, int (ofK s).2]) := by
  refine fnOk Tryz.func62 rfl (by kernel_rfl) Tryz.ntmps62 _ rfl (by simp) fun C hc => ?_
  have h := ofKey_ok s hm
  generalize ofK s = x at h ⊢
  repeat' (first | (first | refine Ya ?_ | refine Yb ?_ | refine Yc ?_ | refine Yd ?_ | refine Ye ?_ | refine Yf ?_ | refine Yg ?_ | refine Yh ?_ | refine Yi ?_ | refine Yj ?_ | refine Yk ?_ | refine Yl ?_ | refine Ym ?_ | refine Yn ?_ | refine Yo ?_ | refine Yp (h := ?_) | refine Yq ?_ | refine Yr ?_ | refine Ys ?_ | refine Zr hc (hk := ?_) | refine Zd hc (hk := ?_) | (refine Zc (ht := fun hb => ?_) (hf := fun hb => ?_) <;> (try simp at hb)) | fail) | (first | refine Zw hc (hf := by exact h) (hk := ?_) | refine Zq hc (hf := by exact h) (hk := ?_) | refine Zo hc (hk := ?_) | refine Zu hc (hk := ?_) | refine Ze hc (hk := ?_) | refine Zn hc (hk := ?_) | fail))
  (refine Zl hc (hr := ?_))
  simp
end Go.Proofs.YtnainpghpjelcaaGreatDoor
/-
  CHAPTER 1's REFERENCE: KeyOf without rules, OfKey. (WITH run_drawN.)
-/
set_option linter.unusedSimpArgs false
set_option linter.unusedVariables false
namespace Go.Proofs.YtnainpghpjelcaaGreatDoor
open Go.Lw Go.RowKit
set_option maxRecDepth 100000
set_option maxHeartbeats 2000000

end Go.Proofs.YtnainpghpjelcaaGreatDoor
/-
  ADDRESS, PROGRAM AND REFERENCE: HostOf; AddressOfKeysMatchSpec. (WITH run_drawN.)
-/
set_option linter.unusedSimpArgs false
set_option linter.unusedVariables false
namespace Go.Proofs.YtnainpghpjelcaaGreatDoor
open Go.Lw Go.RowKit
set_option maxRecDepth 100000
set_option maxHeartbeats 2000000

/-- What of a key stands before the ). -/
def hostK (s : Bs) : Bs := (Lib.cut s [41]).1
def hostC (s : Bs) : Bs × Nat := if (ofK s).2 = 0 then (hostK s, 0) else ([], (ofK s).2)
theorem of_has {s : Bs} (h : (ofK s).2 = 0) : (41 : UInt8) ∈ s := by
  rcases ofK_cases s with h1 | ⟨_, _, _, _, h3⟩
  · exact absurd h h1.1
  · rw [← h3]
    unfold keyN
    simp
theorem host_take {s : Bs} (h : (41 : UInt8) ∈ s) : ∃ n : Nat, n ≤ s.length ∧ Lib.indexByte s 41 = (n : Int) ∧ s.take n = hostK s := by
  rcases parted 41 s with h1 | ⟨x, y, rfl, h1⟩
  · exact absurd h h1
  · refine ⟨x.length, by simp, ?_, ?_⟩
    · rw [← Lib.index_one]; exact ix_app 41 x y h1
    · unfold hostK
      rw [cut_app 41 x y h1]
      simp
theorem hostOf_ok (s : Bs) (h : (41 : UInt8) ∈ s) (hm : s.length ≤ 9223372036854775807) : FnOk Tryz.prog 200 [str s] (str (hostK s)) := by
  refine fnOk Tryz.func200 rfl (by kernel_rfl) Tryz.ntmps200 _ rfl (by simp) fun C hc => ?_
  have h1 := indexByte_ok s 41
  obtain ⟨n, hn, e, et⟩ := host_take h
  rw [e] at h1
  rw [← et]
  repeat' (first | (first | refine Ya ?_ | refine Yb ?_ | refine Yc ?_ | refine Yd ?_ | refine Ye ?_ | refine Yf ?_ | refine Yg ?_ | refine Yh ?_ | refine Yi ?_ | refine Yj ?_ | refine Yk ?_ | refine Yl ?_ | refine Ym ?_ | refine Yn ?_ | refine Yo ?_ | refine Yp (h := ?_) | refine Yq ?_ | refine Yr ?_ | refine Ys ?_ | refine Zr hc (hk := ?_) | refine Zd hc (hk := ?_) | (refine Zc (ht := fun hb => ?_) (hf := fun hb => ?_) <;> (try simp at hb)) | fail) | (first | refine Zw hc (hf := by exact h1) (hk := ?_) | refine Zq hc (hf := by exact h1) (hk := ?_) | refine Zo hc (hk := ?_) | refine Zu hc (hk := ?_) | refine Ze hc (hk := ?_) | refine Zn hc (hk := ?_) | fail))
  (refine Zl hc (hr := ?_))
  simp
theorem hostF_ok (s : Bs) (hm : s.length ≤ 9223372036854775807) : FnOk Tryz.prog 155 [str s] (.tup [str (hostC s).1, int (hostC s).2]) := by
  refine fnOk Tryz.func155 rfl (by kernel_rfl) Tryz.ntmps155 _ rfl (by simp) fun C hc => ?_
  have h1 := ofKey_ok s hm
  unfold hostC
  by_cases h0 : (ofK s).2 = 0
  · have h2 := hostOf_ok s (of_has h0) hm
    rw [if_pos h0]
    rw [h0] at h1
    generalize (ofK s).1 = a at h1
    generalize hostK s = r at h2 ⊢
    repeat' (first | (first | refine Ya ?_ | refine Yb ?_ | refine Yc ?_ | refine Yd ?_ | refine Ye ?_ | refine Yf ?_ | refine Yg ?_ | refine Yh ?_ | refine Yi ?_ | refine Yj ?_ | refine Yk ?_ | refine Yl ?_ | refine Ym ?_ | refine Yn ?_ | refine Yo ?_ | refine Yp (h := ?_) | refine Yq ?_ | refine Yr ?_ | refine Ys ?_ | refine Zr hc (hk := ?_) | refine Zd hc (hk := ?_) | (refine Zc (ht := fun hb => ?_) (hf := fun hb => ?_) <;> (try simp at hb)) | fail) | (first | refine Zw hc (hf := by first | exact h1 | exact h2) (hk := ?_) | refine Zq hc (hf := by first | exact h1 | exact h2) (hk := ?_) | refine Zo hc (hk := ?_) | refine Zu hc (hk := ?_) | refine Ze hc (hk := ?_) | refine Zn hc (hk := ?_) | fail))
    all_goals try contradiction
    (refine Zl hc (hr := ?_))
    simp
  · rw [if_neg h0]
    generalize (ofK s).1 = a at h1
    generalize (ofK s).2 = f at h0 h1 ⊢
    repeat' (first | (first | refine Ya ?_ | refine Yb ?_ | refine Yc ?_ | refine Yd ?_ | refine Ye ?_ | refine Yf ?_ | refine Yg ?_ | refine Yh ?_ | refine Yi ?_ | refine Yj ?_ | refine Yk ?_ | refine Yl ?_ | refine Ym ?_ | refine Yn ?_ | refine Yo ?_ | refine Yp (h := ?_) | refine Yq ?_ | refine Yr ?_ | refine Ys ?_ | refine Zr hc (hk := ?_) | refine Zd hc (hk := ?_) | (refine Zc (ht := fun hb => ?_) (hf := fun hb => ?_) <;> (try simp at hb)) | fail) | (first | refine Zw hc (hf := by exact h1) (hk := ?_) | refine Zq hc (hf := by exact h1) (hk := ?_) | refine Zo hc (hk := ?_) | refine Zu hc (hk := ?_) | refine Ze hc (hk := ?_) | refine Zn hc (hk := ?_) | fail))
    all_goals try contradiction
    (refine Zl hc (hr := ?_))
    simp
end Go.Proofs.YtnainpghpjelcaaGreatDoor
