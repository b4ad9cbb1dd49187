/-
  URGENT: what is more urgent; it is a strict order, ties by place (plain law).
-/
import Derived.Test.YtnainpghpjelcaaGreatDoorUgI
import Derived.Test.YtnainpghpjelcaaGreatDoorFrAwake
import Derived.Test.YtnainpghpjelcaaGreatDoorFnD
import Derived.Test.YtnainpghpjelcaaGreatDoorFnB
set_option linter.unusedSimpArgs false
set_option linter.unusedVariables false
namespace Go.Proofs.YtnainpghpjelcaaGreatDoor
open Go.Lw Go.RowKit
set_option maxRecDepth 100000
set_option maxHeartbeats 400000

/-- A page that is watched: its key, its visits. -/
abbrev Wtc := Bs × List Vis
abbrev wtc0 : Wtc := ([], [])
abbrev wtcAt (L : List Wtc) (j : Nat) : Wtc := L[j]?.getD wtc0
abbrev wtcSl (L : List Wtc) : D := .sl L.length fun i => [str (wtcAt L i).1, visSl (wtcAt L i).2]
abbrev lastV (v : List Vis) : Int := (v[v.length - 1]?.getD ((0 : Int), false)).1
/-- The fault of what is watched, from one row on. -/
def wtcGo (L : List Wtc) (t : Int) (j : Nat) : Int :=
  if j < L.length then (if (ofK (wtcAt L j).1).2 ≠ 0 then ((ofK (wtcAt L j).1).2 : Int) else if checkVisits (wtcAt L j).2 ≠ 0 then checkVisits (wtcAt L j).2 else if 0 < (wtcAt L j).2.length ∧ t < lastV (wtcAt L j).2 then 8 else wtcGo L t (j + 1)) else 0
termination_by L.length - j
def wtcE (L : List Wtc) (t : Int) : Int := if 300 < L.length then 2 else wtcGo L t 0
def urgE (L : List Wtc) (t n : Int) : Int := if wtcE L t ≠ 0 then wtcE L t else if decide (okM t) = false ∨ decide (0 ≤ n ∧ n ≤ 300) = false then 1 else 0
structure WtcOk (L : List Wtc) (t : Int) : Prop where
  few : L.length ≤ 300
  vis : ∀ j, (wtcAt L j).2.length ≤ 500
  last : ∀ j, 0 < (wtcAt L j).2.length → 0 ≤ lastV (wtcAt L j).2 ∧ lastV (wtcAt L j).2 ≤ t
theorem wtcGo_good {L : List Wtc} {t : Int} (k : Nat) : ∀ j, L.length - j = k → wtcGo L t j = 0 → ∀ i, j ≤ i → i < L.length → checkVisits (wtcAt L i).2 = 0 ∧ (0 < (wtcAt L i).2.length → lastV (wtcAt L i).2 ≤ t) := by
  induction k with
  | zero => intro j hj _ i h1 h2; omega
  | succ k ih =>
    intro j hj hg i h1 h2
    rw [wtcGo, if_pos (by omega)] at hg
    split at hg
    · omega
    split at hg
    · contradiction
    rename_i h3
    split at hg
    · cases hg
    rename_i h4
    rcases Nat.eq_or_lt_of_le h1 with rfl | h
    · exact ⟨Classical.not_not.1 h3, fun h0 => by
        rcases Int.lt_or_le t (lastV (wtcAt L j).2) with h5 | h5
        · exact absurd ⟨h0, h5⟩ h4
        · exact h5⟩
    · exact ih (j + 1) (by omega) hg i h h2
theorem wtc_good {L : List Wtc} {t : Int} (h : wtcE L t = 0) : WtcOk L t := by
  unfold wtcE at h
  split at h
  · cases h
  rename_i h0
  have hg := wtcGo_good _ 0 rfl h
  have hin : ∀ j, j < L.length → (wtcAt L j).2.length ≤ 500 ∧ visFrom (wtcAt L j).2 0 = 0 := fun j hj => by
    have h1 := (hg j (Nat.zero_le _) hj).1
    unfold checkVisits at h1
    split at h1
    · cases h1
    · exact ⟨by omega, h1⟩
  have hout : ∀ j, L.length ≤ j → wtcAt L j = wtc0 := fun j hj => by simp [wtcAt, List.getElem?_eq_none hj]
  refine ⟨by omega, fun j => ?_, fun j h1 => ?_⟩
  · rcases Nat.lt_or_ge j L.length with hj | hj
    · exact (hin j hj).1
    · rw [hout j hj]; simp
  · rcases Nat.lt_or_ge j L.length with hj | hj
    · have h2 := visFrom_range _ 0 (hin j hj).2 ((wtcAt L j).2.length - 1) (Nat.zero_le _) (by omega)
      exact ⟨h2.1, (hg j (Nat.zero_le _) hj).2 h1⟩
    · rw [hout j hj] at h1; simp at h1
/-- How urgent: one number over another one. -/
def urgP (L : List Wtc) (t : Int) (x : Int) : Int := if (wtcAt L x.toNat).2.length = 0 then 1 else (t - lastV (wtcAt L x.toNat).2) * (2 * changes (wtcAt L x.toNat).2 + 1)
def urgV (L : List Wtc) (x : Int) : Int := ((wtcAt L x.toNat).2.length : Int)
def urgLt (L : List Wtc) (t : Int) (x y : Int) : Bool := decide (urgP L t y * urgV L x < urgP L t x * urgV L y)
/-- .. ties by place. -/
def urgL (L : List Wtc) (t : Int) (x y : Int) : Bool := urgLt L t x y || (!urgLt L t y x && decide (x < y))
theorem changes_bd (l : List Vis) : 0 ≤ changes l ∧ changes l ≤ (l.length : Int) := by
  have := chFrom_bd l 0
  unfold changes
  rw [Nat.sub_zero] at this
  exact this
theorem urgP_bd {L : List Wtc} {t : Int} (ok : WtcOk L t) (ht : okM t) (x : Int) : 0 ≤ urgP L t x ∧ urgP L t x ≤ 253655703099799 ∧ 0 ≤ urgV L x ∧ urgV L x ≤ 500 ∧ (urgV L x = 0 → urgP L t x = 1) := by
  have h1 := ok.vis x.toNat
  have h2 := ok.last x.toNat
  have h3 := changes_bd (wtcAt L x.toNat).2
  obtain ⟨t0, t1⟩ := ht
  unfold urgP urgV
  split
  · rename_i h0
    refine ⟨by omega, by omega, by omega, by omega, fun _ => rfl⟩
  · rename_i h0
    have h2 := h2 (by omega)
    have a0 : 0 ≤ t - lastV (wtcAt L x.toNat).2 := by omega
    have a1 : t - lastV (wtcAt L x.toNat).2 ≤ 253402300799 := by omega
    have b0 : 0 ≤ 2 * changes (wtcAt L x.toNat).2 + 1 := by omega
    have b1 : 2 * changes (wtcAt L x.toNat).2 + 1 ≤ 1001 := by omega
    have m : (t - lastV (wtcAt L x.toNat).2) * (2 * changes (wtcAt L x.toNat).2 + 1) ≤ 253402300799 * 1001 := Int.mul_le_mul a1 b1 b0 (by omega)
    exact ⟨Int.mul_nonneg a0 b0, by omega, by omega, by omega, fun h => by omega⟩
theorem cross_trans {px vx py vy pz vz : Int} (hvx : 0 ≤ vx) (hvz : 0 ≤ vz) (hvy : 0 ≤ vy) (hpx : 0 ≤ px) (hpz : 0 ≤ pz) (h1 : py * vx < px * vy) (h2 : pz * vy < py * vz) : pz * vx < px * vz := by
  have y0 : 0 < vy := by
    rcases Int.lt_or_eq_of_le hvy with h | h
    · exact h
    · exfalso
      subst h
      have hpy : 0 ≤ py * vx := by
        have : 0 < py * vz := by simpa using h2
        rcases Int.lt_or_le py 0 with hp | hp
        · have := Int.mul_nonpos_of_nonpos_of_nonneg (Int.le_of_lt hp) hvz; omega
        · exact Int.mul_nonneg hp hvx
      simp only [Int.mul_zero] at h1
      omega
  have z0 : 0 < vz := by
    rcases Int.lt_or_eq_of_le hvz with h | h
    · exact h
    · exfalso
      subst h
      have := Int.mul_nonneg hpz hvy
      simp only [Int.mul_zero] at h2
      omega
  -- (pz * vx) * vy < (px * vz) * vy
  have e1 : py * vx * vz < px * vy * vz := Int.mul_lt_mul_of_pos_right h1 z0
  have e2 : pz * vy * vx ≤ py * vz * vx := Int.mul_le_mul_of_nonneg_right (Int.le_of_lt h2) hvx
  have e3 : pz * vx * vy < px * vz * vy := by
    have a1 : pz * vx * vy = pz * vy * vx := by rw [Int.mul_assoc, Int.mul_comm vx, ← Int.mul_assoc]
    have a2 : px * vz * vy = px * vy * vz := by rw [Int.mul_assoc, Int.mul_comm vz, ← Int.mul_assoc]
    have a3 : py * vz * vx = py * vx * vz := by rw [Int.mul_assoc, Int.mul_comm vz, ← Int.mul_assoc]
    omega
  exact Int.lt_of_mul_lt_mul_right e3 hvy
theorem cross_ntrans {px vx py vy pz vz : Int} (hvx : 0 ≤ vx) (hvz : 0 ≤ vz) (hvy : 0 ≤ vy) (hpx : 0 ≤ px) (hpz : 0 ≤ pz) (hy : vy = 0 → py = 1) (h1 : px * vy ≤ py * vx) (h2 : py * vz ≤ pz * vy) : px * vz ≤ pz * vx := by
  rcases Int.lt_or_eq_of_le hvy with h | h
  · have e1 : px * vy * vz ≤ py * vx * vz := Int.mul_le_mul_of_nonneg_right h1 hvz
    have e2 : py * vz * vx ≤ pz * vy * vx := Int.mul_le_mul_of_nonneg_right h2 hvx
    have e3 : px * vz * vy ≤ pz * vx * vy := by
      have a1 : pz * vx * vy = pz * vy * vx := by rw [Int.mul_assoc, Int.mul_comm vx, ← Int.mul_assoc]
      have a2 : px * vz * vy = px * vy * vz := by rw [Int.mul_assoc, Int.mul_comm vz, ← Int.mul_assoc]
      have a3 : py * vz * vx = py * vx * vz := by rw [Int.mul_assoc, Int.mul_comm vz, ← Int.mul_assoc]
      omega
    exact Int.le_of_mul_le_mul_right e3 h
  · have hp := hy h.symm
    subst h
    subst hp
    simp only [Int.mul_zero, Int.one_mul] at h2
    have hz : vz = 0 := by omega
    subst hz
    rw [Int.mul_zero]
    exact Int.mul_nonneg hpz hvx
theorem urg_lts {L : List Wtc} {t : Int} (ok : WtcOk L t) (ht : okM t) : Lts (urgL L t) := by
  have tr : ∀ x y z, urgLt L t x y = true → urgLt L t y z = true → urgLt L t x z = true := fun x y z h1 h2 => by
    have bx := urgP_bd ok ht x
    have by_ := urgP_bd ok ht y
    have bz := urgP_bd ok ht z
    unfold urgLt at h1 h2 ⊢
    simp only [decide_eq_true_eq] at h1 h2 ⊢
    exact cross_trans bx.2.2.1 bz.2.2.1 by_.2.2.1 bx.1 bz.1 h1 h2
  have ntr : ∀ x y z, urgLt L t x y = false → urgLt L t y z = false → urgLt L t x z = false := fun x y z h1 h2 => by
    have bx := urgP_bd ok ht x
    have by_ := urgP_bd ok ht y
    have bz := urgP_bd ok ht z
    unfold urgLt at h1 h2 ⊢
    simp only [decide_eq_false_iff_not, Int.not_lt] at h1 h2 ⊢
    exact cross_ntrans bx.2.2.1 bz.2.2.1 by_.2.2.1 bx.1 bz.1 by_.2.2.2.2 h1 h2
  have asym : ∀ x y, urgLt L t x y = true → urgLt L t y x = false := fun x y h => by
    unfold urgLt at h ⊢
    simp only [decide_eq_true_eq, decide_eq_false_iff_not, Int.not_lt] at h ⊢
    omega
  refine ⟨fun x => ?_, fun x y z h1 h2 => ?_, fun x y hne => ?_⟩
  · unfold urgL urgLt; simp
  · unfold urgL at h1 h2 ⊢
    cases a : urgLt L t x y <;> cases b : urgLt L t y x <;> cases c : urgLt L t y z <;> cases d : urgLt L t z y <;> simp only [a, b, c, d, Bool.false_or, Bool.true_or, Bool.not_true, Bool.not_false, Bool.false_and, Bool.true_and, decide_eq_true_eq] at h1 h2
    · -- ties twice
      rw [ntr x y z a c, ntr z y x d b]
      simp only [Bool.false_or, Bool.not_false, Bool.true_and, decide_eq_true_eq]; omega
    · cases h2
    · have e : urgLt L t x z = true := by
        cases e : urgLt L t x z with
        | true => rfl
        | false =>
          have := ntr y x z b e
          rw [c] at this; cases this
      rw [e]; rfl
    · have := asym _ _ c; rw [d] at this; cases this
    all_goals try (cases h1; done)
    all_goals try (cases h2; done)
    · have e : urgLt L t x z = true := by
        cases e : urgLt L t x z with
        | true => rfl
        | false =>
          have := ntr x z y e d
          rw [a] at this; cases this
      rw [e]; rfl
    · rw [tr x y z a c]; rfl
    all_goals (first | (have := asym _ _ a; rw [b] at this; exact absurd this (by decide)) | (have := asym _ _ c; rw [d] at this; exact absurd this (by decide)) | (cases h1; done) | (cases h2; done))
  · unfold urgL
    cases a : urgLt L t x y <;> cases b : urgLt L t y x <;> simp
    omega
/-- Of two places, the later one comes ahead only where it is more urgent. -/
theorem urgL_later {L : List Wtc} {t x y : Int} (h : x < y) : urgL L t y x = urgLt L t y x := by
  unfold urgL
  rw [decide_eq_false (show ¬ y < x by omega)]
  simp
/-- The first numbers of a row. -/
abbrev cutSl (X : List Int) (m : Nat) : D := .sl m fun i => [int (X[i]?.getD 0)]
def urgX (L : List Wtc) (t : Int) : List Int := srt (urgL L t) ((List.range L.length).map fun (i : Nat) => (i : Int))
def urgD (L : List Wtc) (t n : Int) : D := if urgE L t n ≠ 0 then .tup [.lit (.slice none 0 0), int (urgE L t n)] else .tup [cutSl (urgX L t) (min n L.length).toNat, int 0]
end Go.Proofs.YtnainpghpjelcaaGreatDoor
/-
  URGENT: the program. (WITH run_drawN.)
-/
set_option linter.unusedSimpArgs false
set_option linter.unusedVariables false
namespace Go.Proofs.YtnainpghpjelcaaGreatDoor
open Go.Lw Go.RowKit
set_option maxRecDepth 100000
set_option maxHeartbeats 8000000

theorem checkWatched_ok (L : List Wtc) (t : Int) (hl : L.length ≤ 9223372036854775807) (hk : ∀ j, (wtcAt L j).1.length ≤ 9223372036854775807) (hv : ∀ j, (wtcAt L j).2.length ≤ 9223372036854775807) : FnOk Tryz.prog 90 [wtcSl L, int t] (int (wtcE L t)) := by
  refine fnOk Tryz.func90 rfl (by kernel_rfl) Tryz.ntmps90 _ rfl (by simp) fun C hc => ?_
  unfold wtcE
  repeat' (first | (first | refine Ya ?_ | refine Yb ?_ | refine Yc ?_ | refine Yd ?_ | refine Ye ?_ | refine Yf ?_ | refine Yg ?_ | refine Yh ?_ | refine Yi ?_ | refine Yj ?_ | refine Yk ?_ | refine Yl ?_ | refine Ym ?_ | refine Yn ?_ | refine Yo ?_ | refine Yp (h := ?_) | refine Yq ?_ | refine Yr ?_ | refine Ys ?_ | refine Zr hc (hk := ?_) | refine Zd hc (hk := ?_) | (refine Zc (ht := fun hb => ?_) (hf := fun hb => ?_) <;> (try simp at hb)) | fail) | (first | refine Zo hc (hk := ?_) | refine Zu hc (hk := ?_) | refine Ze hc (hk := ?_) | refine Zn hc (hk := ?_) | fail))
  · rw [if_pos (by omega)]
    (refine Zl hc (hr := ?_))
    simp
  rw [if_neg (by omega)]
  refine ewp_loop (fun j : Nat => ⟨[(1, .d (int t)), (14, .d (wtcSl L)), (15, .d (int L.length)), (16, .d (int j))], []⟩) (fun j => j ≤ L.length ∧ wtcGo L t 0 = wtcGo L t j) (fun j => L.length - j) 0 (by simp) (run_keep [1, 14, 15, 16] [] (by simp; exact Gives.mk) (by simp; exact Gives.mk)) ?_
  rintro j ⟨hj, hA⟩
  have hst : wtcGo L t j = if j < L.length then (if (ofK (wtcAt L j).1).2 ≠ 0 then ((ofK (wtcAt L j).1).2 : Int) else if checkVisits (wtcAt L j).2 ≠ 0 then checkVisits (wtcAt L j).2 else if 0 < (wtcAt L j).2.length ∧ t < lastV (wtcAt L j).2 then 8 else wtcGo L t (j + 1)) else 0 := by rw [wtcGo]
  have h1 := ofKeyF_ok (wtcAt L j).1 (hk j)
  have h2 := checkVisits_ok (wtcAt L j).2 (hv j)
  have hvj := hv j
  by_cases hlt : j < L.length
  rotate_left
  · rw [if_neg hlt] at hst
    repeat' (first | (first | refine Ya ?_ | refine Yb ?_ | refine Yc ?_ | refine Yd ?_ | refine Ye ?_ | refine Yf ?_ | refine Yg ?_ | refine Yh ?_ | refine Yi ?_ | refine Yj ?_ | refine Yk ?_ | refine Yl ?_ | refine Ym ?_ | refine Yn ?_ | refine Yo ?_ | refine Yp (h := ?_) | refine Yq ?_ | refine Yr ?_ | refine Ys ?_ | refine Zr hc (hk := ?_) | refine Zd hc (hk := ?_) | (refine Zc (ht := fun hb => ?_) (hf := fun hb => ?_) <;> (try simp at hb)) | fail) | (first | refine Zo hc (hk := ?_) | refine Zu hc (hk := ?_) | refine Ze hc (hk := ?_) | refine Zn hc (hk := ?_) | fail))
    all_goals try (exfalso; omega)
    rw [hA, hst]
    (refine Zl hc (hr := ?_))
    simp
  rw [if_pos hlt] at hst
  generalize ofK (wtcAt L j).1 = y at h1 hst
  generalize checkVisits (wtcAt L j).2 = e at h2 hst
  unfold lastV at hst
  repeat' (first | (first | refine Ya ?_ | refine Yb ?_ | refine Yc ?_ | refine Yd ?_ | refine Ye ?_ | refine Yf ?_ | refine Yg ?_ | refine Yh ?_ | refine Yi ?_ | refine Yj ?_ | refine Yk ?_ | refine Yl ?_ | refine Ym ?_ | refine Yn ?_ | refine Yo ?_ | refine Yp (h := ?_) | refine Yq ?_ | refine Yr ?_ | refine Ys ?_ | refine Zr hc (hk := ?_) | refine Zd hc (hk := ?_) | (refine Zc (ht := fun hb => ?_) (hf := fun hb => ?_) <;> (try simp at hb)) | fail) | (first | refine Zw hc (hf := by first | exact h1 | exact h2) (hk := ?_) | refine Zq hc (hf := by first | exact h1 | exact h2) (hk := ?_) | refine Zo hc (hk := ?_) | refine Zu hc (hk := ?_) | refine Ze hc (hk := ?_) | refine Zn hc (hk := ?_) | fail))
  all_goals try contradiction
  all_goals try (exfalso; omega)
  · rw [if_pos hb] at hst
    rw [hA, hst]
    (refine Zl hc (hr := ?_))
    simp
  · rename_i g1
    rw [if_neg (fun h => h g1), if_pos hb] at hst
    rw [hA, hst]
    (refine Zl hc (hr := ?_))
    simp
  · rename_i g1 g2
    rw [if_neg (fun h => h g1), if_neg (fun h => h g2), if_pos hb] at hst
    rw [hA, hst]
    (refine Zl hc (hr := ?_))
    simp
  · rename_i g1 g2
    rw [if_neg (fun h => h g1), if_neg (fun h => h g2), if_neg (fun h => by have := hb h.1; omega)] at hst
    exact ⟨j + 1, ⟨by omega, by rw [hA, hst]⟩, by omega, run_back [1, 14, 15, 16] [] (by simp; exact Gives.mk) (by simp; exact Gives.mk) (by simp)⟩
/-- How urgent visits are, in numbers of moments. -/
abbrev urgU (v : List Vis) (t : Int) : Int := (t - lastV v) * (2 * changes v + 1)
structure VisOk (v : List Vis) (t : Int) : Prop where
  len : v.length ≤ 500
  t0 : 0 ≤ t ∧ t ≤ 253402300799
  last : 0 < v.length → 0 ≤ lastV v ∧ lastV v ≤ t
theorem urgU_bd {v : List Vis} {t : Int} (h : VisOk v t) (h0 : 0 < v.length) : 0 ≤ urgU v t ∧ urgU v t ≤ 253655703099799 := by
  have h1 := h.len
  have h2 := h.last h0
  have h3 := changes_bd v
  obtain ⟨t0, t1⟩ := h.t0
  have a0 : 0 ≤ t - lastV v := by omega
  have a1 : t - lastV v ≤ 253402300799 := by omega
  have b0 : 0 ≤ 2 * changes v + 1 := by omega
  have b1 : 2 * changes v + 1 ≤ 1001 := by omega
  have m : (t - lastV v) * (2 * changes v + 1) ≤ 253402300799 * 1001 := Int.mul_le_mul a1 b1 b0 (by omega)
  exact ⟨Int.mul_nonneg a0 b0, by show (t - lastV v) * (2 * changes v + 1) ≤ _; omega⟩
theorem urgency_ok (v : List Vis) (t : Int) (h : VisOk v t) (h0 : 0 < v.length) : FnOk Tryz.prog 94 [visSl v, int t] (.tup [int (urgU v t), int (2 * (v.length : Int))]) := by
  refine fnOk Tryz.func94 rfl (by kernel_rfl) Tryz.ntmps94 _ rfl (by simp) fun C hc => ?_
  have h1 := changes_ok v (by have := h.len; omega)
  have hb := urgU_bd h h0
  have hl := h.last h0
  have ht := h.t0
  have hc1 := changes_bd v
  have hl5 := h.len
  unfold urgU lastV at *
  generalize changes v = c at h1 hb hc1 ⊢
  repeat' (first | (first | refine Ya ?_ | refine Yb ?_ | refine Yc ?_ | refine Yd ?_ | refine Ye ?_ | refine Yf ?_ | refine Yg ?_ | refine Yh ?_ | refine Yi ?_ | refine Yj ?_ | refine Yk ?_ | refine Yl ?_ | refine Ym ?_ | refine Yn ?_ | refine Yo ?_ | refine Yp (h := ?_) | refine Yq ?_ | refine Yr ?_ | refine Ys ?_ | refine Zr hc (hk := ?_) | refine Zd hc (hk := ?_) | (refine Zc (ht := fun hb => ?_) (hf := fun hb => ?_) <;> (try simp at hb)) | fail) | (first | refine Zw hc (hf := by exact h1) (hk := ?_) | refine Zq hc (hf := by exact h1) (hk := ?_) | refine Zo hc (hk := ?_) | refine Zu hc (hk := ?_) | refine Ze hc (hk := ?_) | refine Zn hc (hk := ?_) | fail))
  all_goals try contradiction
  (refine Zl hc (hr := ?_))
  simp
def urgCmp (vx vy : List Vis) (t : Int) : Int := if vx.length = 0 ∨ vy.length = 0 then min (vx.length : Int) 1 - min (vy.length : Int) 1 else if urgU vy t * (2 * (vx.length : Int)) - urgU vx t * (2 * (vy.length : Int)) < 0 then -1 else if 0 < urgU vy t * (2 * (vx.length : Int)) - urgU vx t * (2 * (vy.length : Int)) then 1 else 0
theorem mul_bd {u q : Int} (h1 : 0 ≤ u ∧ u ≤ 253655703099799) (h2 : 0 ≤ q ∧ q ≤ 1000) : 0 ≤ u * q ∧ u * q ≤ 253655703099799000 := by
  have m : u * q ≤ 253655703099799 * 1000 := Int.mul_le_mul h1.2 h2.2 h2.1 (by omega)
  exact ⟨Int.mul_nonneg h1.1 h2.1, by omega⟩
theorem min_if3 (a b : Int) : (if b < a then b else a) = min a b := by split <;> omega
theorem urgClo_ok (L : List Wtc) (t : Int) (x y : Nat) (hl : L.length ≤ 300) (hx : x < L.length) (hy : y < L.length) (h1 : VisOk (wtcAt L x).2 t) (h2 : VisOk (wtcAt L y).2 t) :
    FnOk Tryz.prog 93 [int x, int y, .ip [wtcSl L] 0, .ip [int t] 0] (int (urgCmp (wtcAt L x).2 (wtcAt L y).2 t)) := by
  refine fnOk Tryz.func93 rfl (by kernel_rfl) Tryz.ntmps93 _ rfl (by simp) fun C hc => ?_
  have c1 := fun h => urgency_ok (wtcAt L x).2 t h1 h
  have c2 := fun h => urgency_ok (wtcAt L y).2 t h2 h
  have b1 := fun h => urgU_bd h1 h
  have b2 := fun h => urgU_bd h2 h
  have l1 := h1.len
  have l2 := h2.len
  unfold urgCmp
  have hnil : ∀ v : List Vis, v.length = 0 ↔ v = [] := fun v => List.length_eq_zero_iff
  by_cases h0 : (wtcAt L x).2.length = 0 ∨ (wtcAt L y).2.length = 0
  · rw [if_pos h0]
    clear c1 c2 b1 b2 h1 h2
    repeat' (first | (first | refine Ya ?_ | refine Yb ?_ | refine Yc ?_ | refine Yd ?_ | refine Ye ?_ | refine Yf ?_ | refine Yg ?_ | refine Yh ?_ | refine Yi ?_ | refine Yj ?_ | refine Yk ?_ | refine Yl ?_ | refine Ym ?_ | refine Yn ?_ | refine Yo ?_ | refine Yp (h := ?_) | refine Yq ?_ | refine Yr ?_ | refine Ys ?_ | refine Zr hc (hk := ?_) | refine Zd hc (hk := ?_) | (refine Zc (ht := fun hb => ?_) (hf := fun hb => ?_) <;> (try simp at hb)) | fail) | (first | refine Zo hc (hk := ?_) | refine Zu hc (hk := ?_) | refine Ze hc (hk := ?_) | refine Zn hc (hk := ?_) | fail))
    all_goals try contradiction
    all_goals try (exfalso; rw [hnil, hnil] at h0; rcases h0 with h | h; exact hb.1 h; exact hb.2 h)
    (refine Zl hc (hr := ?_))
    simp [min_if3]
  rw [if_neg h0]
  have c1 := c1 (by omega)
  have c2 := c2 (by omega)
  have b1 := b1 (by omega)
  have b2 := b2 (by omega)
  have m1 := mul_bd b2 (q := 2 * ((wtcAt L x).2.length : Int)) (by omega)
  have m2 := mul_bd b1 (q := 2 * ((wtcAt L y).2.length : Int)) (by omega)
  generalize urgU (wtcAt L x).2 t = p at *
  generalize urgU (wtcAt L y).2 t = u at *
  clear h1 h2
  repeat' (first | (first | refine Ya ?_ | refine Yb ?_ | refine Yc ?_ | refine Yd ?_ | refine Ye ?_ | refine Yf ?_ | refine Yg ?_ | refine Yh ?_ | refine Yi ?_ | refine Yj ?_ | refine Yk ?_ | refine Yl ?_ | refine Ym ?_ | refine Yn ?_ | refine Yo ?_ | refine Yp (h := ?_) | refine Yq ?_ | refine Yr ?_ | refine Ys ?_ | refine Zr hc (hk := ?_) | refine Zd hc (hk := ?_) | (refine Zc (ht := fun hb => ?_) (hf := fun hb => ?_) <;> (try simp at hb)) | fail) | (first | refine Zw hc (hf := by first | exact c1 | exact c2) (hk := ?_) | refine Zq hc (hf := by first | exact c1 | exact c2) (hk := ?_) | refine Zo hc (hk := ?_) | refine Zu hc (hk := ?_) | refine Ze hc (hk := ?_) | refine Zn hc (hk := ?_) | fail))
  all_goals try contradiction
  all_goals try (exfalso; rw [hnil, hnil] at h0; exact h0 hb)
  · rw [if_pos (by omega)]
    (refine Zl hc (hr := ?_))
    simp
  · rw [if_neg (by omega), if_pos (by omega)]
    (refine Zl hc (hr := ?_))
    simp
  · rw [if_neg (by omega), if_neg (by omega)]
    (refine Zl hc (hr := ?_))
    simp
theorem urgCmp_says (L : List Wtc) (t : Int) (x y : Nat) (h1 : VisOk (wtcAt L x).2 t) (h2 : VisOk (wtcAt L y).2 t) : urgCmp (wtcAt L x).2 (wtcAt L y).2 t < 0 ↔ urgLt L t (x : Int) (y : Int) = true := by
  unfold urgLt urgP urgV urgCmp
  simp only [Int.toNat_natCast, decide_eq_true_eq]
  have b1 := fun h => urgU_bd h1 h
  have b2 := fun h => urgU_bd h2 h
  change _ ↔ (if (wtcAt L y).2.length = 0 then 1 else urgU (wtcAt L y).2 t) * _ < (if (wtcAt L x).2.length = 0 then 1 else urgU (wtcAt L x).2 t) * _
  generalize urgU (wtcAt L x).2 t = p at *
  generalize urgU (wtcAt L y).2 t = u at *
  generalize (wtcAt L x).2.length = n at *
  generalize (wtcAt L y).2.length = m at *
  by_cases hn : n = 0
  · subst hn
    rw [if_pos (.inl rfl), if_pos rfl]
    by_cases hm : m = 0
    · subst hm; simp
    · rw [if_neg hm]
      simp
      omega
  · by_cases hm : m = 0
    · subst hm
      rw [if_pos (.inr rfl), if_pos rfl, if_neg hn]
      simp
      omega
    · rw [if_neg (by omega), if_neg hn, if_neg hm]
      have e1 : u * (2 * (n : Int)) = 2 * (u * (n : Int)) := by rw [← Int.mul_assoc, Int.mul_comm u 2, Int.mul_assoc]
      have e2 : p * (2 * (m : Int)) = 2 * (p * (m : Int)) := by rw [← Int.mul_assoc, Int.mul_comm p 2, Int.mul_assoc]
      rw [e1, e2]
      generalize u * (n : Int) = a
      generalize p * (m : Int) = b
      split
      · omega
      · split <;> omega
abbrev okX (L : List Wtc) (x : Int) : Prop := 0 ≤ x ∧ x < L.length
theorem visOk_of {L : List Wtc} {t : Int} (ok : WtcOk L t) (ht : okM t) (j : Nat) : VisOk (wtcAt L j).2 t := ⟨ok.vis j, ht, fun h => ok.last j h⟩
theorem urgCmpOk (L : List Wtc) (t : Int) (ok : WtcOk L t) (ht : okM t) : CmpOk 93 [.ip [wtcSl L] 0, .ip [int t] 0] (okX L) (urgL L t) (fun x y => urgCmp (wtcAt L x.toNat).2 (wtcAt L y.toNat).2 t) := by
  refine ⟨fun x y hx hy => ?_, urg_lts ok ht, fun x y hx hy hlt => ?_⟩
  · obtain ⟨a, rfl⟩ : ∃ a : Nat, x = a := ⟨x.toNat, by omega⟩
    obtain ⟨b, rfl⟩ : ∃ b : Nat, y = b := ⟨y.toNat, by omega⟩
    simp only [Int.toNat_natCast]
    exact urgClo_ok L t a b ok.few (by omega) (by omega) (visOk_of ok ht a) (visOk_of ok ht b)
  · obtain ⟨a, rfl⟩ : ∃ a : Nat, x = a := ⟨x.toNat, by omega⟩
    obtain ⟨b, rfl⟩ : ∃ b : Nat, y = b := ⟨y.toNat, by omega⟩
    simp only [Int.toNat_natCast]
    rw [urgL_later hlt]
    exact urgCmp_says L t a b (visOk_of ok ht a) (visOk_of ok ht b)
abbrev rng (n : Nat) : List Int := (List.range n).map fun (i : Nat) => (i : Int)
theorem rng_next (n : Nat) : rng (n + 1) = rng n ++ [(n : Int)] := by unfold rng; rw [List.range_succ, List.map_append]; rfl
theorem rng_len (n : Nat) : (rng n).length = n := by simp [rng]
theorem rng_mem {n : Nat} {x : Int} (h : x ∈ rng n) : 0 ≤ x ∧ x < n := by
  obtain ⟨i, hi, rfl⟩ := List.mem_map.1 h
  have := List.mem_range.1 hi
  omega
theorem rng_inc (n : Nat) : (rng n).Pairwise (· < ·) := by
  rw [List.pairwise_iff_getElem]
  intro i j hi hj h
  simp [rng]
  omega
theorem urgE_good {L : List Wtc} {t n : Int} (h : urgE L t n = 0) : wtcE L t = 0 ∧ WtcOk L t ∧ okM t ∧ 0 ≤ n ∧ n ≤ 300 := by
  unfold urgE at h
  by_cases h1 : wtcE L t = 0
  · rw [if_neg (fun e => e h1)] at h
    split at h
    · cases h
    · rename_i h2
      simp only [not_or, decide_eq_false_iff_not, Classical.not_not] at h2
      exact ⟨h1, wtc_good h1, h2.1, h2.2⟩
  · rw [if_pos h1] at h; exact absurd h h1
theorem frUrgent_ok (L : List Wtc) (t n : Int) (hl : L.length ≤ 9223372036854775807) (hk : ∀ j, (wtcAt L j).1.length ≤ 9223372036854775807) (hv : ∀ j, (wtcAt L j).2.length ≤ 9223372036854775807) : FnOk Tryz.prog 37 [wtcSl L, int t, int n] (urgD L t n) := by
  refine fnOk Tryz.func37 rfl (by kernel_rfl) Tryz.ntmps37 _ rfl (by simp) fun C hc => ?_
  have h1 := checkWatched_ok L t hl hk hv
  have h2 := frMoment_ok t
  have h3 := frWithin_ok n 0 300
  unfold urgD
  by_cases he : urgE L t n = 0
  rotate_left
  · rw [if_pos he]
    unfold urgE at he ⊢
    generalize wtcE L t = e at h1 he ⊢
    generalize decide (okM t) = w1 at h2 he ⊢
    generalize decide (0 ≤ n ∧ n ≤ 300) = w2 at h3 he ⊢
    by_cases he1 : e = 0
    · rw [if_neg (fun h => h he1)] at he ⊢
      subst he1
      by_cases hw : w1 = false ∨ w2 = false
      · rw [if_pos hw]
        repeat' (first | (first | refine Ya ?_ | refine Yb ?_ | refine Yc ?_ | refine Yd ?_ | refine Ye ?_ | refine Yf ?_ | refine Yg ?_ | refine Yh ?_ | refine Yi ?_ | refine Yj ?_ | refine Yk ?_ | refine Yl ?_ | refine Ym ?_ | refine Yn ?_ | refine Yo ?_ | refine Yp (h := ?_) | refine Yq ?_ | refine Yr ?_ | refine Ys ?_ | refine Zr hc (hk := ?_) | refine Zd hc (hk := ?_) | (refine Zc (ht := fun hb => ?_) (hf := fun hb => ?_) <;> (try simp at hb)) | fail) | (first | refine Zw hc (hf := by first | exact h1 | exact h2 | exact h3) (hk := ?_) | refine Zq hc (hf := by first | exact h1 | exact h2 | exact h3) (hk := ?_) | refine Zo hc (hk := ?_) | refine Zu hc (hk := ?_) | refine Ze hc (hk := ?_) | refine Zn hc (hk := ?_) | fail))
        all_goals try contradiction
        all_goals try (exfalso; simp_all; done)
        (refine Zl hc (hr := ?_))
        simp
      · rw [if_neg hw] at he; exact absurd rfl he
    · rw [if_pos he1]
      repeat' (first | (first | refine Ya ?_ | refine Yb ?_ | refine Yc ?_ | refine Yd ?_ | refine Ye ?_ | refine Yf ?_ | refine Yg ?_ | refine Yh ?_ | refine Yi ?_ | refine Yj ?_ | refine Yk ?_ | refine Yl ?_ | refine Ym ?_ | refine Yn ?_ | refine Yo ?_ | refine Yp (h := ?_) | refine Yq ?_ | refine Yr ?_ | refine Ys ?_ | refine Zr hc (hk := ?_) | refine Zd hc (hk := ?_) | (refine Zc (ht := fun hb => ?_) (hf := fun hb => ?_) <;> (try simp at hb)) | fail) | (first | refine Zw hc (hf := by exact h1) (hk := ?_) | refine Zq hc (hf := by exact h1) (hk := ?_) | refine Zo hc (hk := ?_) | refine Zu hc (hk := ?_) | refine Ze hc (hk := ?_) | refine Zn hc (hk := ?_) | fail))
      all_goals try contradiction
      (refine Zl hc (hr := ?_))
      simp
  obtain ⟨e1, ok, ht, n0, n1⟩ := urgE_good he
  rw [if_neg (fun h => h he)]
  rw [e1] at h1
  rw [decide_eq_true ht] at h2
  rw [decide_eq_true ⟨n0, n1⟩] at h3
  have hfew := ok.few
  have hS := sortStable_ok (urgCmpOk L t ok ht) (rng L.length) (fun x hx => rng_mem hx) (rng_inc _) (by rw [rng_len]; exact hfew)
  rw [rng_len] at hS
  change _ = _ at he
  repeat' (first | (first | refine Ya ?_ | refine Yb ?_ | refine Yc ?_ | refine Yd ?_ | refine Ye ?_ | refine Yf ?_ | refine Yg ?_ | refine Yh ?_ | refine Yi ?_ | refine Yj ?_ | refine Yk ?_ | refine Yl ?_ | refine Ym ?_ | refine Yn ?_ | refine Yo ?_ | refine Yp (h := ?_) | refine Yq ?_ | refine Yr ?_ | refine Ys ?_ | refine Zr hc (hk := ?_) | refine Zd hc (hk := ?_) | (refine Zc (ht := fun hb => ?_) (hf := fun hb => ?_) <;> (try simp at hb)) | fail) | (first | refine Zw hc (hf := by first | exact h1 | exact h2 | exact h3) (hk := ?_) | refine Zq hc (hf := by first | exact h1 | exact h2 | exact h3) (hk := ?_) | refine Zo hc (hk := ?_) | refine Zu hc (hk := ?_) | refine Ze hc (hk := ?_) | refine Zn hc (hk := ?_) | fail))
  all_goals try contradiction
  (first | refine run_sealW 3 hc (by simp; exact Gives.mk) (by simp) ?_ | refine run_seal 3 hc (by simp; exact Gives.mk) (by simp) ?_)
  (first | refine run_sealW 4 hc (by simp; exact Gives.mk) (by simp) ?_ | refine run_seal 4 hc (by simp; exact Gives.mk) (by simp) ?_)
  refine ewp_loop (fun j : Nat => ⟨[(2, .d (int n)), (3, .d (.ip [wtcSl L] 0)), (4, .d (.ip [int t] 0)), (9, .os 40001 j), (26, .d (int L.length)), (27, .d (int j))], [(40001, .own 3 1 (true, [int 0]) ((rng j).map fun y => [int y]))]⟩)
    (fun j => j ≤ L.length) (fun j => L.length - j) 0 (Nat.zero_le _) (run_keepB [(9, none, 40001, 3, [int 0])] [2, 3, 4, 9, 26, 27] [40001] (by simp; exact Gives.mk) (by simp; exact Gives.mk) (by simp; exact Gives.mk)) ?_
  intro j hj
  have hrl := rng_len j
  by_cases hlt : j < L.length
  · have hnx := rng_next j
    generalize rng j = R at hnx hrl ⊢
    repeat' (first | (first | refine Ya ?_ | refine Yb ?_ | refine Yc ?_ | refine Yd ?_ | refine Ye ?_ | refine Yf ?_ | refine Yg ?_ | refine Yh ?_ | refine Yi ?_ | refine Yj ?_ | refine Yk ?_ | refine Yl ?_ | refine Ym ?_ | refine Yn ?_ | refine Yo ?_ | refine Yp (h := ?_) | refine Yq ?_ | refine Yr ?_ | refine Ys ?_ | refine Zr hc (hk := ?_) | refine Zd hc (hk := ?_) | (refine Zc (ht := fun hb => ?_) (hf := fun hb => ?_) <;> (try simp at hb)) | fail) | (first | refine Zo hc (hk := ?_) | refine Zu hc (hk := ?_) | refine Ze hc (hk := ?_) | fail))
    all_goals try contradiction
    all_goals try (exfalso; omega)
    refine ⟨j + 1, by omega, by omega, run_back [2, 3, 4, 9, 26, 27] [40001] (by simp; exact Gives.mk) (by simp; exact Gives.mk) ?_⟩
    simp only [hnx]
    simp [← hrl]
  obtain rfl : j = L.length := by omega
  have hsl : (srt (urgL L t) (rng L.length)).length = L.length := by rw [srt_length, hrl]
  unfold urgX
  change FnOk _ _ _ _ at h1
  generalize hRR : srt (urgL L t) (rng L.length) = X at *
  generalize rng L.length = R at *
  repeat' (first | (first | refine Ya ?_ | refine Yb ?_ | refine Yc ?_ | refine Yd ?_ | refine Ye ?_ | refine Yf ?_ | refine Yg ?_ | refine Yh ?_ | refine Yi ?_ | refine Yj ?_ | refine Yk ?_ | refine Yl ?_ | refine Ym ?_ | refine Yn ?_ | refine Yo ?_ | refine Yp (h := ?_) | refine Yq ?_ | refine Yr ?_ | refine Ys ?_ | refine Zr hc (hk := ?_) | refine Zd hc (hk := ?_) | (refine Zc (ht := fun hb => ?_) (hf := fun hb => ?_) <;> (try simp at hb)) | fail) | ((first | refine run_callM ([(100000, 40001)]) (hS) hc (by simp; exact Gives.mk) (by simp; exact Gives.mk) (by simp; exact Gives.mk) (by simp; exact Gives.mk) (by simp; exact Gives.mk) rfl (by simp; exact Gives.mk) (by simp; exact Gives.mk) rfl (by simp) (by simp) (by simp; exact Gives.mk) (by simp; exact Gives.mk) ?_ | fail)) | (first | refine Zo hc (hk := ?_) | refine Zu hc (hk := ?_) | refine Ze hc (hk := ?_) | fail))
  all_goals try contradiction
  all_goals try (exfalso; omega)
  obtain ⟨m, rfl⟩ : ∃ m : Nat, n = m := ⟨n.toNat, by omega⟩
  by_cases hmn : L.length < m
  · have e : (min (m : Int) (L.length : Int)).toNat = X.length := by omega
    rw [e]
    have hXl : L.length ≤ X.length := by omega
    have hmn2 : (L.length : Int) < (m : Int) := by omega
    (refine run_leave hc (by simp [hmn, hmn2, hXl]; exact Gives.mk) ?_)
    simp [hsl]
  · have e : (min (m : Int) (L.length : Int)).toNat = m := by omega
    rw [e]
    have hXl : m ≤ X.length := by omega
    have hmn2 : ¬ (L.length : Int) < (m : Int) := by omega
    (refine run_leave hc (by simp [hmn, hmn2, hXl]; exact Gives.mk) ?_)
    simp
end Go.Proofs.YtnainpghpjelcaaGreatDoor
