/-
  FRONTIER: FrontierAddsInAnyOrder's own walk. (WITH run_drawN.)
-/
import Derived.Test.YtnainpghpjelcaaGreatDoorFoA
import Derived.Test.YtnainpghpjelcaaGreatDoorFmD
import Derived.Test.YtnainpghpjelcaaGreatDoorFnT
import Derived.Test.YtnainpghpjelcaaGreatDoorFnV
import Derived.Test.YtnainpghpjelcaaGreatDoorFrAwake
set_option linter.unusedSimpArgs false
set_option linter.unusedVariables false
namespace Go.Proofs.YtnainpghpjelcaaGreatDoor
open Go.Lw Go.RowKit
set_option maxRecDepth 100000
set_option maxHeartbeats 2000000

theorem addsOrder_ok (f : Frt) (a b : Wnt) (hf : FrOk f) (ha : a.1.length ≤ 140737488351232) (hb : b.1.length ≤ 140737488351232) : FnOk Tryz.prog 4 [frD f, wntD a, wntD b] (tru true) := by
  have hA := frAdd_ok f a hf (by omega)
  have hB := frAdd_ok f b hf (by omega)
  have key : addE f a = 0 → addE f b = 0 → FrOk { f with items := addI f.items a } ∧ FrOk { f with items := addI f.items b } ∧ addE { f with items := addI f.items a } b = addE { f with items := addI f.items b } a ∧ addI (addI f.items a) b = addI (addI f.items b) a ∧ (addE { f with items := addI f.items a } b = 0 → FrOk { f with items := addI (addI f.items a) b }) := fun h1 h2 => by
    obtain ⟨k1, k2⟩ := add_swap h1 h2
    obtain ⟨g1, wa, la⟩ := addE_zero h1
    obtain ⟨_, wb, lb⟩ := addE_zero h2
    have hg := frE_good g1
    have r1 := add_frOk hf hg ha
    refine ⟨r1, add_frOk hf hg hb, k1, k2, fun h3 => add_frOk r1 (add_good hg wa la) hb⟩
  have hA2 := fun h => frAdd_ok { f with items := addI f.items a } b h (by omega)
  have hB2 := fun h => frAdd_ok { f with items := addI f.items b } a h (by omega)
  have hS := fun h => same_ok { f with items := addI (addI f.items a) b } h
  have hN := sameNo_ok
  unfold addD at hA hB hA2 hB2
  unfold frNo at hN hA hB hA2 hB2
  refine fnOk Tryz.func4 rfl (by kernel_rfl) Tryz.ntmps4 _ rfl (by simp) fun C hc => ?_
  by_cases h1 : addE f a = 0 <;> by_cases h2 : addE f b = 0
  · obtain ⟨r1, r2, k1, k2, k3⟩ := key h1 h2
    have hA2 := hA2 r1
    have hB2 := hB2 r2
    rw [← k1] at hB2
    rw [if_neg (fun e => e h1)] at hA
    rw [if_neg (fun e => e h2)] at hB
    simp only at hA2 hB2
    rw [← k2] at hB2
    by_cases h3 : addE { f with items := addI f.items a } b = 0
    · have hS := hS (k3 h3)
      rw [if_neg (fun e => e h3)] at hA2 hB2
      clear key r1 r2 k1 k2 k3 h1 h2 h3 hN
      repeat' (first | (first | refine Ya ?_ | refine Yb ?_ | refine Yc ?_ | refine Yd ?_ | refine Ye ?_ | refine Yf ?_ | refine Yg ?_ | refine Yh ?_ | refine Yi ?_ | refine Yj ?_ | refine Yk ?_ | refine Yl ?_ | refine Ym ?_ | refine Yn ?_ | refine Yo ?_ | refine Yp (h := ?_) | refine Yq ?_ | refine Yr ?_ | refine Ys ?_ | refine Zr hc (hk := ?_) | refine Zd hc (hk := ?_) | (refine Zc (ht := fun hb => ?_) (hf := fun hb => ?_) <;> (try simp at hb)) | fail) | (first | refine Zw hc (hf := by first | exact hA | exact hB | exact hA2 | exact hB2 | exact hS | exact awake5_ok) (hk := ?_) | refine Zq hc (hf := by first | exact hA | exact hB | exact hA2 | exact hB2 | exact hS | exact awake5_ok) (hk := ?_) | refine Zo hc (hk := ?_) | refine Zu hc (hk := ?_) | refine Ze hc (hk := ?_) | refine Zn hc (hk := ?_) | fail))
      all_goals try contradiction
      all_goals try (exfalso; omega)
      all_goals (refine Zl hc (hr := ?_))
      all_goals simp
    · rw [if_pos h3] at hA2 hB2
      have h3' : ¬ (addE { f with items := addI f.items a } b : Int) = 0 := by omega
      generalize addE { f with items := addI f.items a } b = e at hA2 hB2 h3 h3'
      clear key r1 r2 k1 k2 k3 h1 h2 hS
      repeat' (first | (first | refine Ya ?_ | refine Yb ?_ | refine Yc ?_ | refine Yd ?_ | refine Ye ?_ | refine Yf ?_ | refine Yg ?_ | refine Yh ?_ | refine Yi ?_ | refine Yj ?_ | refine Yk ?_ | refine Yl ?_ | refine Ym ?_ | refine Yn ?_ | refine Yo ?_ | refine Yp (h := ?_) | refine Yq ?_ | refine Yr ?_ | refine Ys ?_ | refine Zr hc (hk := ?_) | refine Zd hc (hk := ?_) | (refine Zc (ht := fun hb => ?_) (hf := fun hb => ?_) <;> (try simp at hb)) | fail) | (first | refine Zw hc (hf := by first | exact hA | exact hB | exact hA2 | exact hB2 | exact hN | exact awake5_ok) (hk := ?_) | refine Zq hc (hf := by first | exact hA | exact hB | exact hA2 | exact hB2 | exact hN | exact awake5_ok) (hk := ?_) | refine Zo hc (hk := ?_) | refine Zu hc (hk := ?_) | refine Ze hc (hk := ?_) | refine Zn hc (hk := ?_) | fail))
      all_goals try contradiction
      all_goals try (exfalso; omega)
      all_goals (refine Zl hc (hr := ?_))
      all_goals simp
  all_goals
    clear key hA2 hB2 hS hN
    first | rw [if_pos h1] at hA | rw [if_neg (fun e => e h1)] at hA
    first | rw [if_pos h2] at hB | rw [if_neg (fun e => e h2)] at hB
    have h1' : (addE f a : Int) = 0 ↔ addE f a = 0 := by omega
    have h2' : (addE f b : Int) = 0 ↔ addE f b = 0 := by omega
    generalize addE f a = e1 at hA h1 h1'
    generalize addE f b = e2 at hB h2 h2'
    repeat' (first | (first | refine Ya ?_ | refine Yb ?_ | refine Yc ?_ | refine Yd ?_ | refine Ye ?_ | refine Yf ?_ | refine Yg ?_ | refine Yh ?_ | refine Yi ?_ | refine Yj ?_ | refine Yk ?_ | refine Yl ?_ | refine Ym ?_ | refine Yn ?_ | refine Yo ?_ | refine Yp (h := ?_) | refine Yq ?_ | refine Yr ?_ | refine Ys ?_ | refine Zr hc (hk := ?_) | refine Zd hc (hk := ?_) | (refine Zc (ht := fun hb => ?_) (hf := fun hb => ?_) <;> (try simp at hb)) | fail) | (first | refine Zw hc (hf := by first | exact hA | exact hB | exact awake5_ok) (hk := ?_) | refine Zq hc (hf := by first | exact hA | exact hB | exact awake5_ok) (hk := ?_) | refine Zo hc (hk := ?_) | refine Zu hc (hk := ?_) | refine Ze hc (hk := ?_) | refine Zn hc (hk := ?_) | fail))
    all_goals try contradiction
    all_goals try (exfalso; omega)
    all_goals (refine Zl hc (hr := ?_))
    all_goals simp
theorem addsOrderF_ok (f : Frt) (a b : Wnt) (hf : FrFits f) (ha : WntFits a) (hb : WntFits b) : FnOk Tryz.prog 4 [frD f, wntD a, wntD b] (tru true) :=
  addsOrder_ok f a b (frOk_of hf) (by have h := ha.1; simp only [reachBytes] at h; omega) (by have h := hb.1; simp only [reachBytes] at h; omega)
end Go.Proofs.YtnainpghpjelcaaGreatDoor
