/-
  SHARES: what the functions compute, on both sides (plain law).
-/
import Derived.Test.YtnainpghpjelcaaGreatDoorFnD
import Derived.Test.YtnainpghpjelcaaGreatDoorFrAwake
import Derived.Test.YtnainpghpjelcaaGreatDoorFnB
import Derived.Test.YtnainpghpjelcaaGreatDoorLwDict
import Derived.Test.YtnainpghpjelcaaGreatDoorFnT
set_option linter.unusedSimpArgs false
set_option linter.unusedVariables false
namespace Go.Proofs.YtnainpghpjelcaaGreatDoor
open Go.Lw Go.RowKit
set_option maxRecDepth 100000
set_option maxHeartbeats 400000

/-! The plain functions. -/
abbrev Clm := Int × Int
abbrev clmAt (l : List Clm) (j : Nat) : Clm := l[j]?.getD (0, 0)
abbrev clmSl (l : List Clm) : D := .sl l.length fun i => [int (l[i]?.getD (0, 0)).1, int (l[i]?.getD (0, 0)).2]
@[simp] theorem row_i (o : Option Int) : (Option.map (fun y => [int y]) o).getD [int 0] = [int (o.getD 0)] := by cases o <;> rfl
def clmFrom (l : List Clm) (j : Nat) : Bool :=
  if j < l.length then
    if (l[j]?.getD (0, 0)).1 < 1 ∨ 1000000 < (l[j]?.getD (0, 0)).1 ∨ (l[j]?.getD (0, 0)).2 < 0 ∨ 1000000 < (l[j]?.getD (0, 0)).2 then true else clmFrom l (j + 1)
  else false
termination_by l.length - j
def checkClaims (n : Int) (l : List Clm) : Int := if 300 < l.length then 2 else if clmFrom l 0 = true then 1 else if n < 0 ∨ 1000000000 < n then 1 else 0

theorem clmFrom_range (l : List Clm) (j : Nat) (h : clmFrom l j = false) : ∀ i, j ≤ i → i < l.length → 1 ≤ (l[i]?.getD (0, 0)).1 ∧ (l[i]?.getD (0, 0)).1 ≤ 1000000 ∧ 0 ≤ (l[i]?.getD (0, 0)).2 ∧ (l[i]?.getD (0, 0)).2 ≤ 1000000 := by
  intro i hi hl
  rw [clmFrom, if_pos (by omega)] at h
  split at h
  · cases h
  · rcases Nat.eq_or_lt_of_le hi with rfl | hlt
    · omega
    · exact clmFrom_range l (j + 1) h i (by omega) hl
termination_by l.length - j

def wFrom (l : List Clm) (out : List Int) (j : Nat) : Int :=
  if j < l.length then (if out[j]?.getD 0 < (l[j]?.getD (0, 0)).2 then (l[j]?.getD (0, 0)).1 else 0) + wFrom l out (j + 1) else 0
termination_by l.length - j
def giveFrom (l : List Clm) (whole weight : Int) (j : Nat) (out : List Int) (n : Int) : List Int × Int :=
  if j < l.length then
    if out[j]?.getD 0 < (l[j]?.getD (0, 0)).2 then
      let k := if (l[j]?.getD (0, 0)).2 - out[j]?.getD 0 < (whole * (l[j]?.getD (0, 0)).1).tdiv weight then (l[j]?.getD (0, 0)).2 - out[j]?.getD 0 else (whole * (l[j]?.getD (0, 0)).1).tdiv weight
      giveFrom l whole weight (j + 1) (out.set j (out[j]?.getD 0 + k)) (n - k)
    else giveFrom l whole weight (j + 1) out n
  else (out, n)
termination_by l.length - j
def oneFrom (l : List Clm) (j : Nat) (out : List Int) (n : Int) : List Int × Int :=
  if j < l.length then
    if out[j]?.getD 0 < (l[j]?.getD (0, 0)).2 ∧ 0 < n then oneFrom l (j + 1) (out.set j (out[j]?.getD 0 + 1)) (n - 1)
    else oneFrom l (j + 1) out n
  else (out, n)
termination_by l.length - j
def roundF (l : List Clm) (out : List Int) (n : Int) : List Int × Int :=
  let r := giveFrom l n (wFrom l out 0) 0 out n
  if r.2 < n then r else oneFrom l 0 r.1 r.2
def sharesF (l : List Clm) (out : List Int) (n : Int) : List Int :=
  if h0 : 0 < n then
    if wFrom l out 0 = 0 then out else
      if h : (roundF l out n).2 < n then sharesF l (roundF l out n).1 (roundF l out n).2 else out
  else out
termination_by n.toNat
decreasing_by omega

/-! What holds of them. -/
/-- The claims are right, and what was given out is within them. -/
structure Fits (l : List Clm) (out : List Int) : Prop where
  len : out.length = l.length
  many : l.length ≤ 300
  ok : ∀ i, i < l.length → 1 ≤ (l[i]?.getD (0, 0)).1 ∧ (l[i]?.getD (0, 0)).1 ≤ 1000000 ∧ 0 ≤ (l[i]?.getD (0, 0)).2 ∧ (l[i]?.getD (0, 0)).2 ≤ 1000000
  at_ : ∀ i, i < l.length → 0 ≤ out[i]?.getD 0 ∧ out[i]?.getD 0 ≤ (l[i]?.getD (0, 0)).2

theorem Fits.put {l : List Clm} {out : List Int} (h : Fits l out) {j : Nat} {x : Int} (h0 : 0 ≤ x) (h1 : x ≤ (l[j]?.getD (0, 0)).2) : Fits l (out.set j x) := by
  refine ⟨by simp [h.len], h.many, h.ok, fun i hi => ?_⟩
  have := h.at_ i hi
  have hl := h.len
  by_cases e : j = i
  · subst e
    rw [List.getElem?_set_self (by omega)]
    exact ⟨h0, h1⟩
  · rw [List.getElem?_set_ne e]
    exact this

theorem wFrom_bd {l : List Clm} {out : List Int} (h : Fits l out) (j : Nat) (hj : j ≤ l.length) : 0 ≤ wFrom l out j ∧ wFrom l out j ≤ 1000000 * ((l.length - j : Nat) : Int) := by
  rw [wFrom]
  split
  · rename_i hlt
    have := wFrom_bd h (j + 1) (by omega)
    have := h.ok j hlt
    split <;> omega
  · omega
termination_by l.length - j
/-- What stands behind a place alone tells the weight from there on. -/
theorem wFrom_set {l : List Clm} {out : List Int} (k : Nat) (x : Int) (j : Nat) (hk : k < j) : wFrom l (out.set k x) j = wFrom l out j := by
  rw [wFrom]
  conv => rhs; rw [wFrom]
  split
  · rw [List.getElem?_set_ne (by omega), wFrom_set k x (j + 1) (by omega)]
  · rfl
termination_by l.length - j

theorem give_k {whole weight w : Int} (h0 : 0 ≤ whole) (hw : 1 ≤ w) (hwt : 1 ≤ weight) : 0 ≤ (whole * w).tdiv weight ∧ (whole * w).tdiv weight * weight ≤ whole * w := by
  have h1 : 0 ≤ whole * w := Int.mul_nonneg h0 (by omega)
  rw [Int.tdiv_eq_ediv_of_nonneg h1]
  exact ⟨Int.ediv_nonneg h1 (by omega), Int.ediv_mul_le _ (by omega)⟩

/-- How much is given away, at a place of the round: no more than those before it may weigh. -/
theorem give_left {whole weight n k w v : Int} (hwt : 1 ≤ weight) (hw0 : 0 ≤ whole) (hv : 0 ≤ v) (h : (whole - n) * weight + whole * (w + v) ≤ whole * weight) (hk : k * weight ≤ whole * w) :
    (whole - (n - k)) * weight + whole * v ≤ whole * weight ∧ 0 ≤ n - k := by
  have e1 : (whole - (n - k)) * weight = (whole - n) * weight + k * weight := by
    rw [show whole - (n - k) = (whole - n) + k by omega, Int.add_mul]
  have e2 : whole * (w + v) = whole * w + whole * v := Int.mul_add _ _ _
  have h1 : (whole - (n - k)) * weight + whole * v ≤ whole * weight := by omega
  refine ⟨h1, ?_⟩
  have h2 : 0 ≤ whole * v := Int.mul_nonneg hw0 hv
  have h3 : (whole - (n - k)) * weight ≤ whole * weight := by omega
  have h4 : 0 ≤ (n - k) * weight := by
    have : (whole - (n - k)) * weight = whole * weight - (n - k) * weight := Int.sub_mul _ _ _
    omega
  rcases Int.lt_or_le (n - k) 0 with hn | hn
  · exfalso
    have : (n - k) * weight < 0 := Int.mul_neg_of_neg_of_pos hn (by omega)
    omega
  · exact hn
theorem give_take {whole weight w most o : Int} (h0 : 0 ≤ whole) (hw : 1 ≤ w) (hwt : 1 ≤ weight) (ho : o < most) :
    0 ≤ (if most - o < (whole * w).tdiv weight then most - o else (whole * w).tdiv weight) ∧ (if most - o < (whole * w).tdiv weight then most - o else (whole * w).tdiv weight) ≤ most - o ∧
    (if most - o < (whole * w).tdiv weight then most - o else (whole * w).tdiv weight) * weight ≤ whole * w := by
  obtain ⟨h1, h2⟩ := give_k h0 hw hwt
  split
  · refine ⟨by omega, by omega, Int.le_trans (Int.mul_le_mul_of_nonneg_right (by omega) (by omega)) h2⟩
  · exact ⟨h1, by omega, h2⟩
theorem set_int (l : List Int) (i : Nat) : l.set i (l[i]?.getD 0) = l := by
  by_cases h : i < l.length
  · simp [h]
  · exact List.set_eq_of_length_le (by omega)
theorem sum_set (l : List Int) (k : Int) : ∀ (j : Nat), j < l.length → (l.set j (l[j]?.getD 0 + k)).sum = l.sum + k := by
  induction l with
  | nil => intro j hj; simp at hj
  | cons x l ih =>
    intro j hj
    cases j with
    | zero => simp; omega
    | succ j =>
      have := ih j (by simpa using hj)
      simp only [List.set_cons_succ, List.sum_cons, List.getElem?_cons_succ]
      omega

theorem give_spec {l : List Clm} {whole weight : Int} (h0 : 0 ≤ whole) (hwt : 1 ≤ weight) (j : Nat) (out : List Int) (n : Int) (h : Fits l out) (hj : j ≤ l.length) (hn : 0 ≤ n) (hle : (whole - n) * weight + whole * wFrom l out j ≤ whole * weight) :
    Fits l (giveFrom l whole weight j out n).1 ∧ 0 ≤ (giveFrom l whole weight j out n).2 ∧ (giveFrom l whole weight j out n).2 ≤ n ∧ (giveFrom l whole weight j out n).1.sum + (giveFrom l whole weight j out n).2 = out.sum + n ∧
      ((giveFrom l whole weight j out n).2 = n → (giveFrom l whole weight j out n).1 = out) := by
  rw [giveFrom]
  rw [wFrom] at hle
  split
  · rename_i hlt
    rw [if_pos hlt] at hle
    have hlen := h.len
    have hv := (wFrom_bd h (j + 1) (by omega)).1
    have hat := h.at_ j hlt
    split
    · rename_i ho
      rw [if_pos ho] at hle
      simp only
      obtain ⟨hk0, hk1, hk2⟩ := give_take (most := (l[j]?.getD (0, 0)).2) (o := out[j]?.getD 0) h0 (h.ok j hlt).1 hwt ho
      generalize (if (l[j]?.getD (0, 0)).2 - out[j]?.getD 0 < (whole * (l[j]?.getD (0, 0)).1).tdiv weight then (l[j]?.getD (0, 0)).2 - out[j]?.getD 0 else (whole * (l[j]?.getD (0, 0)).1).tdiv weight) = k at hk0 hk1 hk2
      obtain ⟨hg1, hg2⟩ := give_left (n := n) hwt h0 hv hle hk2
      obtain ⟨a1, a2, a3, a4, a5⟩ := give_spec h0 hwt (j + 1) (out.set j (out[j]?.getD 0 + k)) (n - k) (h.put (by omega) (by omega)) (by omega) hg2 (by rw [wFrom_set _ _ _ (by omega)]; exact hg1)
      rw [sum_set out k j (by omega)] at a4
      refine ⟨a1, a2, by omega, by omega, fun he => ?_⟩
      obtain rfl : k = 0 := by omega
      have e1 : out.set j (out[j]?.getD 0 + 0) = out := by rw [Int.add_zero, set_int]
      rw [e1] at a2 a3 a5 he ⊢
      exact a5 (by omega)
    · rename_i ho
      rw [if_neg ho, Int.zero_add] at hle
      exact give_spec h0 hwt (j + 1) out n h (by omega) hn hle
  · exact ⟨h, hn, by simp, rfl, fun _ => rfl⟩
termination_by l.length - j
theorem one_spec {l : List Clm} (j : Nat) (out : List Int) (n : Int) (h : Fits l out) (hn : 0 ≤ n) :
    Fits l (oneFrom l j out n).1 ∧ 0 ≤ (oneFrom l j out n).2 ∧ (oneFrom l j out n).2 ≤ n ∧ (oneFrom l j out n).1.sum + (oneFrom l j out n).2 = out.sum + n ∧ (0 < n → 0 < wFrom l out j → (oneFrom l j out n).2 < n) := by
  rw [oneFrom, wFrom]
  split
  · rename_i hlt
    have hlen := h.len
    have hat := h.at_ j hlt
    split
    · rename_i ho
      obtain ⟨a1, a2, a3, a4, _⟩ := one_spec (j + 1) (out.set j (out[j]?.getD 0 + 1)) (n - 1) (h.put (by omega) (by omega)) (by omega)
      rw [sum_set out 1 j (by omega)] at a4
      exact ⟨a1, a2, by omega, by omega, fun _ _ => by omega⟩
    · rename_i ho
      obtain ⟨a1, a2, a3, a4, a5⟩ := one_spec (j + 1) out n h hn
      refine ⟨a1, a2, a3, a4, fun h1 h2 => a5 h1 ?_⟩
      rw [if_neg (by omega)] at h2
      omega
  · exact ⟨h, hn, by simp, rfl, fun _ h2 => by omega⟩
termination_by l.length - j
theorem round_spec {l : List Clm} (out : List Int) (n : Int) (h : Fits l out) (hn : 0 < n) (hw : wFrom l out 0 ≠ 0) :
    Fits l (roundF l out n).1 ∧ 0 ≤ (roundF l out n).2 ∧ (roundF l out n).2 < n ∧ (roundF l out n).1.sum + (roundF l out n).2 = out.sum + n := by
  have hb := wFrom_bd h 0 (by omega)
  obtain ⟨a1, a2, a3, a4, a5⟩ := give_spec (whole := n) (weight := wFrom l out 0) (by omega) (by omega) 0 out n h (by omega) (by omega) (by simp)
  unfold roundF
  simp only
  split
  · exact ⟨a1, a2, by assumption, a4⟩
  · obtain ⟨b1, b2, b3, b4, b5⟩ := one_spec 0 _ _ a1 a2
    have e := a5 (by omega)
    rw [e] at b1 b2 b3 b4 b5 a4 ⊢
    exact ⟨b1, b2, by have := b5 (by omega) (by omega); omega, by omega⟩
theorem full {l : List Clm} {out : List Int} (h : Fits l out) (j : Nat) (hw : wFrom l out j = 0) : ∀ i, j ≤ i → i < l.length → out[i]?.getD 0 = (l[i]?.getD (0, 0)).2 := by
  intro i hi hl
  rw [wFrom, if_pos (by omega)] at hw
  have h1 := (wFrom_bd h (j + 1) (by omega)).1
  have h2 := h.ok j (by omega)
  have h3 := h.at_ j (by omega)
  split at hw
  · omega
  · rcases Nat.eq_or_lt_of_le hi with rfl | hlt
    · omega
    · exact full h (j + 1) (by omega) i hlt hl
termination_by l.length - j
theorem sum_le {l : List Clm} : ∀ (out : List Int), out.length = l.length → (∀ i, i < l.length → out[i]?.getD 0 ≤ (l[i]?.getD (0, 0)).2) → out.sum ≤ (l.map (·.2)).sum := by
  induction l with
  | nil => intro out h _; cases out with | nil => simp | cons => simp at h
  | cons c l ih =>
    intro out h hi
    cases out with
    | nil => simp at h
    | cons x out =>
      have h1 := hi 0 (by simp)
      have h2 := ih out (by simpa using h) (fun i hl => by simpa using hi (i + 1) (by simpa using hl))
      simp only [List.getElem?_cons_zero, Option.getD_some] at h1
      simp only [List.sum_cons, List.map_cons]
      omega
theorem sum_eq {l : List Clm} (out : List Int) (hl : out.length = l.length) (h : ∀ i, i < l.length → out[i]?.getD 0 = (l[i]?.getD (0, 0)).2) : out.sum = (l.map (·.2)).sum := by
  congr 1
  apply List.ext_getElem?
  intro i
  by_cases hi : i < l.length
  · have := h i hi
    simp [hi, show i < out.length by omega] at this
    simp [hi, show i < out.length by omega, this]
  · rw [List.getElem?_eq_none (by omega), List.getElem?_eq_none (by simp; omega)]


/-! The reference's way: as long as less is given out than can be. -/
def sharesQ (l : List Clm) (n given : Int) (out : List Int) (left : Int) : List Int :=
  if n - left < given then
    if h : (roundF l out left).2 < left ∧ 0 ≤ (roundF l out left).2 then sharesQ l n given (roundF l out left).1 (roundF l out left).2 else out
  else out
termination_by left.toNat
decreasing_by omega
theorem sum_lt {l : List Clm} {out : List Int} (h : Fits l out) (hw : wFrom l out 0 ≠ 0) : out.sum < (l.map (·.2)).sum := by
  have h1 := sum_le out h.len fun i hi => (h.at_ i hi).2
  rcases Int.lt_or_eq_of_le h1 with h2 | h2
  · exact h2
  exfalso
  apply hw
  have key : ∀ (l : List Clm) (out : List Int), out.length = l.length → (∀ i, i < l.length → out[i]?.getD 0 ≤ (l[i]?.getD (0, 0)).2) → out.sum = (l.map (·.2)).sum → ∀ i, i < l.length → out[i]?.getD 0 = (l[i]?.getD (0, 0)).2 := by
    intro l
    induction l with
    | nil => intro out _ _ _ i hi; simp at hi
    | cons c l ih =>
      intro out hl hi hs i hil
      cases out with
      | nil => simp at hl
      | cons x out =>
        have k1 := hi 0 (by simp)
        have k2 := fun i hl => by simpa using hi (i + 1) (by simpa using hl)
        have k3 := sum_le out (by simpa using hl) k2
        simp only [List.getElem?_cons_zero, Option.getD_some] at k1
        simp only [List.sum_cons, List.map_cons] at hs
        cases i with
        | zero => simp; omega
        | succ i =>
          have := ih out (by simpa using hl) k2 (by omega) i (by simpa using hil)
          simpa using this
  have he := key l out h.len (fun i hi => (h.at_ i hi).2) h2
  have hz : ∀ k j, l.length - j = k → wFrom l out j = 0 := by
    intro k
    induction k with
    | zero => intro j hj; rw [wFrom, if_neg (by omega)]
    | succ k ih =>
      intro j hj
      rw [wFrom, if_pos (by omega), ih (j + 1) (by omega), if_neg (by have := he j (by omega); omega)]
      rfl
  exact hz _ 0 rfl
theorem w_full {l : List Clm} {out : List Int} (h : Fits l out) (hw : wFrom l out 0 = 0) : out.sum = (l.map (·.2)).sum :=
  sum_eq out h.len fun i hi => full h 0 hw i (by omega) hi
theorem shares_same {l : List Clm} (n : Int) (out : List Int) (left : Int) (h : Fits l out) (h0 : 0 ≤ left) (hs : out.sum + left = n) :
    sharesQ l n (min n (l.map (·.2)).sum) out left = sharesF l out left := by
  rw [sharesQ, sharesF]
  by_cases hl : 0 < left
  · rw [dif_pos hl]
    by_cases hw : wFrom l out 0 = 0
    · have := w_full h hw
      rw [if_pos hw, if_neg (by omega)]
    · have := sum_lt h hw
      obtain ⟨a1, a2, a3, a4⟩ := round_spec out left h hl hw
      rw [if_neg hw, if_pos (by omega), dif_pos ⟨a3, a2⟩, dif_pos a3]
      exact shares_same n _ _ a1 a2 (by omega)
  · rw [dif_neg hl, if_neg (by omega)]
termination_by left.toNat
decreasing_by omega
end Go.Proofs.YtnainpghpjelcaaGreatDoor
/-
  SHARES: the walk through Shares (program). (WITH run_drawN.)
-/
set_option linter.unusedSimpArgs false
set_option linter.unusedVariables false
namespace Go.Proofs.YtnainpghpjelcaaGreatDoor
open Go.Lw Go.RowKit
set_option maxRecDepth 100000
set_option maxHeartbeats 4000000

theorem Shares_ok (n : Int) (l : List Clm) (hm : l.length ≤ 9223372036854775807) : FnOk Tryz.prog 24 [int n, clmSl l]
    (if checkClaims n l ≠ 0 then .tup [.lit (.slice none 0 0), int (checkClaims n l)] else .tup [intSl (sharesF l (List.replicate l.length 0) n), int 0]) := by
  refine fnOk Tryz.func24 rfl (by kernel_rfl) Tryz.ntmps24 _ rfl (by simp) fun C hc => ?_
  repeat' (first | (first | refine Ya ?_ | refine Yb ?_ | refine Yc ?_ | refine Yd ?_ | refine Ye ?_ | refine Yf ?_ | refine Yg ?_ | refine Yh ?_ | refine Yi ?_ | refine Yj ?_ | refine Yk ?_ | refine Yl ?_ | refine Ym ?_ | refine Yn ?_ | refine Yo ?_ | refine Yp (h := ?_) | refine Yq ?_ | refine Yr ?_ | refine Ys ?_ | refine Zr hc (hk := ?_) | refine Zd hc (hk := ?_) | (refine Zc (ht := fun hb => ?_) (hf := fun hb => ?_) <;> (try simp at hb)) | fail) | (first | refine Zo hc (hk := ?_) | refine Zu hc (hk := ?_) | refine Ze hc (hk := ?_) | refine Zn hc (hk := ?_) | fail))
  · (refine Zl hc (hr := ?_))
    have h3 : 300 < l.length := by omega
    simp [checkClaims, h3]
  have hcc : checkClaims n l = if clmFrom l 0 = true then 1 else if n < 0 ∨ 1000000000 < n then 1 else 0 := by
    unfold checkClaims; rw [if_neg (by omega)]
  refine ewp_loop (fun j : Nat => ⟨[(0, .d (int n)), (1, .d (clmSl l)), (21, .d (clmSl l)), (22, .d (int l.length)), (23, .d (int j))], []⟩) (fun j => j ≤ l.length ∧ clmFrom l 0 = clmFrom l j) (fun j => l.length - j) 0 ⟨by simp, rfl⟩ (run_keep [0, 1, 21, 22, 23] [] (by simp; exact Gives.mk) (by simp; exact Gives.mk)) ?_
  intro j ⟨hj, hs⟩
  rw [clmFrom.eq_1 l j] at hs
  repeat' (first | (first | refine Ya ?_ | refine Yb ?_ | refine Yc ?_ | refine Yd ?_ | refine Ye ?_ | refine Yf ?_ | refine Yg ?_ | refine Yh ?_ | refine Yi ?_ | refine Yj ?_ | refine Yk ?_ | refine Yl ?_ | refine Ym ?_ | refine Yn ?_ | refine Yo ?_ | refine Yp (h := ?_) | refine Yq ?_ | refine Yr ?_ | refine Ys ?_ | refine Zr hc (hk := ?_) | refine Zd hc (hk := ?_) | (refine Zc (ht := fun hb => ?_) (hf := fun hb => ?_) <;> (try simp at hb)) | fail) | (first | refine Zw hc (hf := by exact within_ok _ _ _) (hk := ?_) | refine Zq hc (hf := by exact within_ok _ _ _) (hk := ?_) | refine Zo hc (hk := ?_) | refine Zu hc (hk := ?_) | refine Ze hc (hk := ?_) | refine Zn hc (hk := ?_) | fail))
  · (refine Zl hc (hr := ?_))
    have e : checkClaims n l = 1 := by rw [hcc, hs]; (repeat' split) <;> (first | rfl | (exfalso; omega) | (exfalso; simp_all; done) | grind)
    simp [e]
  · refine ⟨j + 1, ⟨by omega, ?_⟩, by omega, run_back [0, 1, 21, 22, 23] [] (by simp; exact Gives.mk) (by simp; exact Gives.mk) (by simp)⟩
    rw [hs, if_pos (by assumption), if_neg (by omega)]
  · (refine Zl hc (hr := ?_))
    have e : checkClaims n l = 1 := by rw [hcc, hs]; (repeat' split) <;> (first | rfl | (exfalso; omega) | (exfalso; simp_all; done) | grind)
    simp [e]
  have hc0 : clmFrom l 0 = false := by rw [hs, if_neg (by omega)]
  have hok := clmFrom_range l 0 hc0
  have hn0 : 0 ≤ n ∧ n ≤ 1000000000 := hb
  have hl3 : l.length ≤ 300 := by omega
  have e0 : checkClaims n l = 0 := by rw [hcc, hc0, if_neg (by simp), if_neg (by omega)]
  have hfit0 : Fits l (List.replicate l.length 0) := ⟨by simp, hl3, fun i hi => hok i (by omega) hi, fun i hi => by have := hok i (by omega) hi; simp [hi] at this ⊢; omega⟩
  simp only [e0, ne_eq, not_true_eq_false, if_false]
  clear hs hcc hb hok hc0
  refine ewp_loop (fun x : List Int × Int => ⟨[(0, .d (int x.2)), (1, .d (clmSl l)), (8, .os 43 x.1.length)], [(43, .own 3 1 (true, [int 0]) (x.1.map fun y => [int y]))]⟩) (fun x => Fits l x.1 ∧ 0 ≤ x.2 ∧ x.2 ≤ 1000000000 ∧ sharesF l (List.replicate l.length 0) n = sharesF l x.1 x.2) (fun x => x.2.toNat) (List.replicate l.length 0, n) ⟨hfit0, hn0.1, hn0.2, rfl⟩ (run_keep [0, 1, 8] [43] (by simp; exact Gives.mk) (by simp; exact Gives.mk)) ?_
  rintro ⟨out, m⟩ ⟨hf, hm0, hm1, hs⟩
  simp only at hf hm0 hm1 hs ⊢
  have hlen := hf.len
  have hwb := wFrom_bd hf 0 (by omega)
  repeat' (first | (first | refine Ya ?_ | refine Yb ?_ | refine Yc ?_ | refine Yd ?_ | refine Ye ?_ | refine Yf ?_ | refine Yg ?_ | refine Yh ?_ | refine Yi ?_ | refine Yj ?_ | refine Yk ?_ | refine Yl ?_ | refine Ym ?_ | refine Yn ?_ | refine Yo ?_ | refine Yp (h := ?_) | refine Yq ?_ | refine Yr ?_ | refine Ys ?_ | refine Zr hc (hk := ?_) | refine Zd hc (hk := ?_) | (refine Zc (ht := fun hb => ?_) (hf := fun hb => ?_) <;> (try simp at hb)) | fail) | (first | refine Zo hc (hk := ?_) | refine Zu hc (hk := ?_) | refine Ze hc (hk := ?_) | refine Zn hc (hk := ?_) | fail))
  -- the weight
  · refine ewp_loop (fun x : Nat × Int => ⟨[(0, .d (int m)), (1, .d (clmSl l)), (8, .os 43 out.length), (9, .d (int x.2)), (46, .d (clmSl l)), (47, .d (int l.length)), (48, .d (int x.1))], [(43, .own 3 1 (true, [int 0]) (out.map fun y => [int y]))]⟩) (fun x => x.1 ≤ l.length ∧ 0 ≤ x.2 ∧ x.2 ≤ 1000000 * (x.1 : Int) ∧ wFrom l out 0 = x.2 + wFrom l out x.1) (fun x => l.length - x.1) (0, 0) ⟨by simp, by simp, by simp, by simp⟩ (run_keep [0, 1, 8, 9, 46, 47, 48] [43] (by simp; exact Gives.mk) (by simp; exact Gives.mk)) ?_
    rintro ⟨i, wt⟩ ⟨hi, hw0, hw1, hws⟩
    simp only at hi hw0 hw1 hws ⊢
    rw [wFrom.eq_1 l out i] at hws
    have hok := hf.ok i
    repeat' (first | (first | refine Ya ?_ | refine Yb ?_ | refine Yc ?_ | refine Yd ?_ | refine Ye ?_ | refine Yf ?_ | refine Yg ?_ | refine Yh ?_ | refine Yi ?_ | refine Yj ?_ | refine Yk ?_ | refine Yl ?_ | refine Ym ?_ | refine Yn ?_ | refine Yo ?_ | refine Yp (h := ?_) | refine Yq ?_ | refine Yr ?_ | refine Ys ?_ | refine Zr hc (hk := ?_) | refine Zd hc (hk := ?_) | (refine Zc (ht := fun hb => ?_) (hf := fun hb => ?_) <;> (try simp at hb)) | fail) | (first | refine Zo hc (hk := ?_) | refine Zu hc (hk := ?_) | refine Ze hc (hk := ?_) | refine Zn hc (hk := ?_) | fail))
    · refine ⟨(i + 1, wt + (l[i]?.getD (0, 0)).1), ⟨by simp; omega, by simp; omega, by simp; omega, ?_⟩, by simp; omega, run_back [0, 1, 8, 9, 46, 47, 48] [43] (by simp; exact Gives.mk) (by simp; exact Gives.mk) (by simp)⟩
      simp only
      rw [hws]; (repeat' split) <;> (first | rfl | (exfalso; omega) | (exfalso; simp_all; done) | grind)
    · refine ⟨(i + 1, wt), ⟨by simp; omega, by simp; omega, by simp; omega, ?_⟩, by simp; omega, run_back [0, 1, 8, 9, 46, 47, 48] [43] (by simp; exact Gives.mk) (by simp; exact Gives.mk) (by simp)⟩
      simp only
      rw [hws]; (repeat' split) <;> (first | rfl | (exfalso; omega) | (exfalso; simp_all; done) | grind)
    · -- no weight is left
      have hw : wFrom l out 0 = 0 := by rw [hws, if_neg (by omega)]; omega
      (refine Zl hc (hr := ?_))
      rw [hs, sharesF, dif_pos (by omega), if_pos hw]
      simp
    have hw : wFrom l out 0 = wt := by rw [hws, if_neg (by omega)]; omega
    have hwt : 1 ≤ wt := by omega
    rw [sharesF.eq_1 l out m] at hs
    rw [dif_pos (by omega), if_neg (by omega)] at hs
    clear hws hok hw0 hw1 hwb
    refine ewp_loop (fun x : Nat × List Int × Int => ⟨[(0, .d (int x.2.2)), (1, .d (clmSl l)), (8, .os 43 x.2.1.length), (9, .d (int wt)), (12, .d (int m)), (68, .d (clmSl l)), (69, .d (int l.length)), (70, .d (int x.1))], [(43, .own 3 1 (true, [int 0]) (x.2.1.map fun y => [int y]))]⟩)
      (fun x => x.1 ≤ l.length ∧ Fits l x.2.1 ∧ 0 ≤ x.2.2 ∧ x.2.2 ≤ m ∧ (x.2.2 = m → x.2.1 = out) ∧ (m - x.2.2) * wt + m * wFrom l x.2.1 x.1 ≤ m * wt ∧ giveFrom l m wt 0 out m = giveFrom l m wt x.1 x.2.1 x.2.2) (fun x => l.length - x.1) (0, out, m) ⟨by simp, hf, hm0, by simp, fun _ => rfl, by simp [hw], rfl⟩ (run_keep [0, 1, 8, 9, 12, 68, 69, 70] [43] (by simp; exact Gives.mk) (by simp; exact Gives.mk)) ?_
    rintro ⟨i2, out2, m2⟩ ⟨hi2, hf2, hm20, hm21, hsame, hle2, hgs⟩
    simp only at hi2 hf2 hm20 hm21 hsame hle2 hgs ⊢
    have hlen2 := hf2.len
    have hok2 := hf2.ok i2
    have hat2 := hf2.at_ i2
    have hgk : i2 < l.length → 0 ≤ (m * (l[i2]?.getD (0, 0)).1).tdiv wt ∧ (m * (l[i2]?.getD (0, 0)).1).tdiv wt * wt ≤ m * (l[i2]?.getD (0, 0)).1 := fun h => give_k hm0 (hok2 h).1 hwt
    have hgm : i2 < l.length → 0 ≤ m * (l[i2]?.getD (0, 0)).1 ∧ m * (l[i2]?.getD (0, 0)).1 ≤ 1000000000 * 1000000 := fun h => ⟨Int.mul_nonneg hm0 (by have := hok2 h; omega), Int.mul_le_mul hm1 (hok2 h).2.1 (by have := hok2 h; omega) (by omega)⟩
    have hgt : i2 < l.length → (m * (l[i2]?.getD (0, 0)).1).tdiv wt ≤ m * (l[i2]?.getD (0, 0)).1 := fun h => (tdiv_bd _ _ (hgm h).1 hwt).2
    rw [giveFrom.eq_1 l m wt i2 out2 m2] at hgs
    rw [wFrom.eq_1 l out2 i2] at hle2
    repeat' (first | (first | refine Ya ?_ | refine Yb ?_ | refine Yc ?_ | refine Yd ?_ | refine Ye ?_ | refine Yf ?_ | refine Yg ?_ | refine Yh ?_ | refine Yi ?_ | refine Yj ?_ | refine Yk ?_ | refine Yl ?_ | refine Ym ?_ | refine Yn ?_ | refine Yo ?_ | refine Yp (h := ?_) | refine Yq ?_ | refine Yr ?_ | refine Ys ?_ | refine Zr hc (hk := ?_) | refine Zd hc (hk := ?_) | (refine Zc (ht := fun hb => ?_) (hf := fun hb => ?_) <;> (try simp at hb)) | fail) | (first | refine Zo hc (hk := ?_) | refine Zu hc (hk := ?_) | refine Ze hc (hk := ?_) | refine Zn hc (hk := ?_) | fail))
    · have hi2' : i2 < l.length := by omega
      have ho2 : out2[i2]?.getD 0 < (l[i2]?.getD (0, 0)).2 := hb
      obtain ⟨hk0, hk1, hk2⟩ := give_take (most := (l[i2]?.getD (0, 0)).2) (o := out2[i2]?.getD 0) hm0 (hok2 hi2').1 hwt hb
      rw [if_pos hi2', if_pos ho2] at hgs hle2
      simp only at hgs
      generalize hk : (if (l[i2]?.getD (0, 0)).2 - out2[i2]?.getD 0 < (m * (l[i2]?.getD (0, 0)).1).tdiv wt then (l[i2]?.getD (0, 0)).2 - out2[i2]?.getD 0 else (m * (l[i2]?.getD (0, 0)).1).tdiv wt) = k at hgs hk0 hk1 hk2
      have hv := (wFrom_bd hf2 (i2 + 1) (by omega)).1
      obtain ⟨hg1, hg2⟩ := give_left (n := m2) hwt hm0 hv hle2 hk2
      have hat := hat2 hi2'
      refine ⟨(i2 + 1, out2.set i2 (out2[i2]?.getD 0 + k), m2 - k), ⟨by simp; omega, hf2.put (by omega) (by omega), hg2, by simp; omega, ?_, ?_, hgs⟩, by simp; omega, run_back [0, 1, 8, 9, 12, 68, 69, 70] [43] (by simp; exact Gives.mk) (by simp; exact Gives.mk) (by simp [hk])⟩
      · simp only
        intro he
        obtain rfl : k = 0 := by omega
        rw [Int.add_zero, set_int]
        exact hsame (by omega)
      simp only
      rw [wFrom_set _ _ _ (by omega)]
      exact hg1
    · have hi2' : i2 < l.length := by omega
      rw [if_pos hi2', if_neg (by omega)] at hgs hle2
      refine ⟨(i2 + 1, out2, m2), ⟨by simp; omega, hf2, hm20, hm21, hsame, ?_, hgs⟩, by simp; omega, run_back [0, 1, 8, 9, 12, 68, 69, 70] [43] (by simp; exact Gives.mk) (by simp; exact Gives.mk) (by simp)⟩
      simp only
      rw [Int.zero_add] at hle2
      exact hle2
    all_goals rw [if_neg (by omega)] at hgs
    -- something was given out: the next round
    · have hr : roundF l out m = (out2, m2) := by
        unfold roundF
        rw [hw, hgs, if_pos (by simpa using hb)]
      rw [hr, dif_pos (by simpa using hb)] at hs
      exact ⟨(out2, m2), ⟨hf2, hm20, by simp; omega, hs⟩, by simp; omega, run_back [0, 1, 8] [43] (by simp; exact Gives.mk) (by simp; exact Gives.mk) (by simp)⟩
    have hr0 : roundF l out m = oneFrom l 0 out2 m2 := by
      unfold roundF
      rw [hw, hgs, if_neg (by simp; omega)]
    obtain rfl : m2 = m := by omega
    obtain rfl := hsame rfl
    clear hle2 hgs hok2 hat2 hgk hgm hgt
    refine ewp_loop (fun x : Nat × List Int × Int => ⟨[(0, .d (int x.2.2)), (1, .d (clmSl l)), (8, .os 43 x.2.1.length), (112, .d (clmSl l)), (113, .d (int l.length)), (114, .d (int x.1))], [(43, .own 3 1 (true, [int 0]) (x.2.1.map fun y => [int y]))]⟩)
      (fun x => x.1 ≤ l.length ∧ Fits l x.2.1 ∧ 0 ≤ x.2.2 ∧ x.2.2 ≤ m2 ∧ (x.2.2 < m2 ∨ 0 < wFrom l x.2.1 x.1) ∧ oneFrom l 0 out2 m2 = oneFrom l x.1 x.2.1 x.2.2) (fun x => l.length - x.1) (0, out2, m2) ⟨by simp, hf2, hm20, by simp, by simp only; omega, rfl⟩ (run_keep [0, 1, 8, 112, 113, 114] [43] (by simp; exact Gives.mk) (by simp; exact Gives.mk)) ?_
    rintro ⟨i3, out3, m3⟩ ⟨hi3, hf3, hm30, hm31, hor, hgs⟩
    simp only at hi3 hf3 hm30 hm31 hor hgs ⊢
    have hlen3 := hf3.len
    have hok3 := hf3.ok i3
    have hat3 := hf3.at_ i3
    rw [oneFrom.eq_1 l i3 out3 m3] at hgs
    rw [wFrom.eq_1 l out3 i3] at hor
    repeat' (first | (first | refine Ya ?_ | refine Yb ?_ | refine Yc ?_ | refine Yd ?_ | refine Ye ?_ | refine Yf ?_ | refine Yg ?_ | refine Yh ?_ | refine Yi ?_ | refine Yj ?_ | refine Yk ?_ | refine Yl ?_ | refine Ym ?_ | refine Yn ?_ | refine Yo ?_ | refine Yp (h := ?_) | refine Yq ?_ | refine Yr ?_ | refine Ys ?_ | refine Zr hc (hk := ?_) | refine Zd hc (hk := ?_) | (refine Zc (ht := fun hb => ?_) (hf := fun hb => ?_) <;> (try simp at hb)) | fail) | (first | refine Zo hc (hk := ?_) | refine Zu hc (hk := ?_) | refine Ze hc (hk := ?_) | refine Zn hc (hk := ?_) | fail))
    · have hi3' : i3 < l.length := by omega
      have hat := hat3 hi3'
      rw [if_pos hi3', if_pos (by omega)] at hgs
      exact ⟨(i3 + 1, out3.set i3 (out3[i3]?.getD 0 + 1), m3 - 1), ⟨by simp; omega, hf3.put (by omega) (by omega), by simp; omega, by simp; omega, by simp; omega, hgs⟩, by simp; omega, run_back [0, 1, 8, 112, 113, 114] [43] (by simp; exact Gives.mk) (by simp; exact Gives.mk) (by simp)⟩
    · have hi3' : i3 < l.length := by omega
      rw [if_pos hi3', if_neg (by omega)] at hgs
      refine ⟨(i3 + 1, out3, m3), ⟨by simp; omega, hf3, hm30, hm31, ?_, hgs⟩, by simp; omega, run_back [0, 1, 8, 112, 113, 114] [43] (by simp; exact Gives.mk) (by simp; exact Gives.mk) (by simp)⟩
      simp only
      rw [if_pos hi3'] at hor
      split at hor <;> omega
    · rw [if_neg (by omega)] at hgs hor
      rw [hr0, hgs, dif_pos (by simp; omega)] at hs
      exact ⟨(out3, m3), ⟨hf3, hm30, by simp; omega, hs⟩, by simp; omega, run_back [0, 1, 8] [43] (by simp; exact Gives.mk) (by simp; exact Gives.mk) (by simp)⟩
  all_goals (refine Zl hc (hr := ?_))
  rw [hs, sharesF, dif_neg (by omega)]
  simp
end Go.Proofs.YtnainpghpjelcaaGreatDoor
/-
  SHARES: the reference. (WITH run_drawN.)
-/
set_option linter.unusedSimpArgs false
set_option linter.unusedVariables false
namespace Go.Proofs.YtnainpghpjelcaaGreatDoor
open Go.Lw Go.RowKit
set_option maxRecDepth 100000
set_option maxHeartbeats 4000000

theorem qClaims_ok (n : Int) (l : List Clm) (hm : l.length ≤ 9223372036854775807) : FnOk Tryz.prog 73 [int n, clmSl l] (int (checkClaims n l)) := by
  refine fnOk Tryz.func73 rfl (by kernel_rfl) Tryz.ntmps73 _ rfl (by simp) fun C hc => ?_
  unfold checkClaims
  have hw := qFrWithin_ok n 0 1000000000
  repeat' (first | (first | refine Ya ?_ | refine Yb ?_ | refine Yc ?_ | refine Yd ?_ | refine Ye ?_ | refine Yf ?_ | refine Yg ?_ | refine Yh ?_ | refine Yi ?_ | refine Yj ?_ | refine Yk ?_ | refine Yl ?_ | refine Ym ?_ | refine Yn ?_ | refine Yo ?_ | refine Yp (h := ?_) | refine Yq ?_ | refine Yr ?_ | refine Ys ?_ | refine Zr hc (hk := ?_) | refine Zd hc (hk := ?_) | (refine Zc (ht := fun hb => ?_) (hf := fun hb => ?_) <;> (try simp at hb)) | fail) | (first | refine Zo hc (hk := ?_) | refine Zu hc (hk := ?_) | refine Ze hc (hk := ?_) | refine Zn hc (hk := ?_) | fail))
  · rw [if_pos (by omega)]
    (refine Zl hc (hr := ?_))
    simp
  rw [if_neg (by omega)]
  refine ewp_loop (fun j : Nat => ⟨[(0, .d (int n)), (1, .d (clmSl l)), (10, .d (clmSl l)), (11, .d (int l.length)), (12, .d (int j))], []⟩) (fun j => j ≤ l.length ∧ clmFrom l 0 = clmFrom l j) (fun j => l.length - j) 0 ⟨by simp, rfl⟩ (run_keep [0, 1, 10, 11, 12] [] (by simp; exact Gives.mk) (by simp; exact Gives.mk)) ?_
  intro j ⟨hj, hs⟩
  rw [clmFrom.eq_1 l j] at hs
  have h1 := qFrWithin_ok (l[j]?.getD (0, 0)).1 1 1000000
  have h2 := qFrWithin_ok (l[j]?.getD (0, 0)).2 0 1000000
  by_cases hlt : j < l.length
  · rw [if_pos hlt] at hs
    repeat' (first | (first | refine Ya ?_ | refine Yb ?_ | refine Yc ?_ | refine Yd ?_ | refine Ye ?_ | refine Yf ?_ | refine Yg ?_ | refine Yh ?_ | refine Yi ?_ | refine Yj ?_ | refine Yk ?_ | refine Yl ?_ | refine Ym ?_ | refine Yn ?_ | refine Yo ?_ | refine Yp (h := ?_) | refine Yq ?_ | refine Yr ?_ | refine Ys ?_ | refine Zr hc (hk := ?_) | refine Zd hc (hk := ?_) | (refine Zc (ht := fun hb => ?_) (hf := fun hb => ?_) <;> (try simp at hb)) | fail) | (first | refine Zw hc (hf := by first | exact h1 | exact h2) (hk := ?_) | refine Zq hc (hf := by first | exact h1 | exact h2) (hk := ?_) | refine Zo hc (hk := ?_) | refine Zu hc (hk := ?_) | refine Ze hc (hk := ?_) | refine Zn hc (hk := ?_) | fail))
    all_goals try contradiction
    all_goals try (exfalso; omega)
    · rw [if_pos (by omega)] at hs
      rw [hs, if_pos rfl]
      (refine Zl hc (hr := ?_))
      simp
    · rw [if_neg (by omega)] at hs
      exact ⟨j + 1, ⟨by omega, hs⟩, by omega, run_back [0, 1, 10, 11, 12] [] (by simp; exact Gives.mk) (by simp; exact Gives.mk) (by simp)⟩
  rw [if_neg hlt] at hs
  rw [hs, if_neg (by decide)]
  repeat' (first | (first | refine Ya ?_ | refine Yb ?_ | refine Yc ?_ | refine Yd ?_ | refine Ye ?_ | refine Yf ?_ | refine Yg ?_ | refine Yh ?_ | refine Yi ?_ | refine Yj ?_ | refine Yk ?_ | refine Yl ?_ | refine Ym ?_ | refine Yn ?_ | refine Yo ?_ | refine Yp (h := ?_) | refine Yq ?_ | refine Yr ?_ | refine Ys ?_ | refine Zr hc (hk := ?_) | refine Zd hc (hk := ?_) | (refine Zc (ht := fun hb => ?_) (hf := fun hb => ?_) <;> (try simp at hb)) | fail) | (first | refine Zw hc (hf := by exact hw) (hk := ?_) | refine Zq hc (hf := by exact hw) (hk := ?_) | refine Zo hc (hk := ?_) | refine Zu hc (hk := ?_) | refine Ze hc (hk := ?_) | refine Zn hc (hk := ?_) | fail))
  all_goals try contradiction
  all_goals try (exfalso; omega)
  · rw [if_pos (by omega)]
    (refine Zl hc (hr := ?_))
    simp
  · rw [if_neg (by omega)]
    (refine Zl hc (hr := ?_))
    simp
abbrev owO (l : List Int) : Nat × O := (100000, .own 3 1 (true, [int 0]) (l.map fun y => [int y]))
theorem qRound_ok (l : List Clm) (out : List Int) (m : Int) (hf : Fits l out) (hm0 : 0 < m) (hm1 : m ≤ 1000000000) (hw0 : wFrom l out 0 ≠ 0) :
    FnMem Tryz.prog 74 [.d (int m), .d (clmSl l), .os 100000 out.length] [owO out] (.d (int (roundF l out m).2)) [owO (roundF l out m).1] := by
  refine fnMem Tryz.func74 rfl (by kernel_rfl) Tryz.ntmps74 _ rfl (by simp) fun C hc => ?_
  have hlen := hf.len
  have hmany := hf.many
  have hwb := wFrom_bd hf 0 (by omega)
  repeat' (first | (first | refine Ya ?_ | refine Yb ?_ | refine Yc ?_ | refine Yd ?_ | refine Ye ?_ | refine Yf ?_ | refine Yg ?_ | refine Yh ?_ | refine Yi ?_ | refine Yj ?_ | refine Yk ?_ | refine Yl ?_ | refine Ym ?_ | refine Yn ?_ | refine Yo ?_ | refine Yp (h := ?_) | refine Yq ?_ | refine Yr ?_ | refine Ys ?_ | refine Zr hc (hk := ?_) | refine Zd hc (hk := ?_) | (refine Zc (ht := fun hb => ?_) (hf := fun hb => ?_) <;> (try simp at hb)) | fail) | (first | refine Zo hc (hk := ?_) | refine Zu hc (hk := ?_) | refine Ze hc (hk := ?_) | refine Zn hc (hk := ?_) | fail))
  -- the weight
  refine ewp_loop (fun x : Nat × Int => ⟨[(0, .d (int m)), (1, .d (clmSl l)), (2, .os 100000 out.length), (7, .d (int x.2)), (16, .d (clmSl l)), (17, .d (int l.length)), (18, .d (int x.1))], [owO out]⟩) (fun x => x.1 ≤ l.length ∧ 0 ≤ x.2 ∧ x.2 ≤ 1000000 * (x.1 : Int) ∧ wFrom l out 0 = x.2 + wFrom l out x.1) (fun x => l.length - x.1) (0, 0) ⟨by simp, by simp, by simp, by simp⟩ (run_keep [0, 1, 2, 7, 16, 17, 18] [100000] (by simp; exact Gives.mk) (by simp; exact Gives.mk)) ?_
  rintro ⟨i, wt⟩ ⟨hi, hw0', hw1, hws⟩
  simp only at hi hw0' hw1 hws ⊢
  rw [wFrom.eq_1 l out i] at hws
  have hok := hf.ok i
  by_cases hlt : i < l.length
  · rw [if_pos hlt] at hws
    repeat' (first | (first | refine Ya ?_ | refine Yb ?_ | refine Yc ?_ | refine Yd ?_ | refine Ye ?_ | refine Yf ?_ | refine Yg ?_ | refine Yh ?_ | refine Yi ?_ | refine Yj ?_ | refine Yk ?_ | refine Yl ?_ | refine Ym ?_ | refine Yn ?_ | refine Yo ?_ | refine Yp (h := ?_) | refine Yq ?_ | refine Yr ?_ | refine Ys ?_ | refine Zr hc (hk := ?_) | refine Zd hc (hk := ?_) | (refine Zc (ht := fun hb => ?_) (hf := fun hb => ?_) <;> (try simp at hb)) | fail) | (first | refine Zo hc (hk := ?_) | refine Zu hc (hk := ?_) | refine Ze hc (hk := ?_) | refine Zn hc (hk := ?_) | fail))
    all_goals try contradiction
    all_goals try (exfalso; omega)
    · rw [if_pos (by simpa using hb)] at hws
      exact ⟨(i + 1, wt + (l[i]?.getD (0, 0)).1), ⟨by simp only; omega, by simp only; omega, by simp only; omega, by simp only; omega⟩, by simp only; omega, run_back [0, 1, 2, 7, 16, 17, 18] [100000] (by simp; exact Gives.mk) (by simp; exact Gives.mk) (by simp)⟩
    · rw [if_neg (by simpa using hb)] at hws
      exact ⟨(i + 1, wt), ⟨by simp only; omega, by simp only; omega, by simp only; omega, by simp only; omega⟩, by simp only; omega, run_back [0, 1, 2, 7, 16, 17, 18] [100000] (by simp; exact Gives.mk) (by simp; exact Gives.mk) (by simp)⟩
  rw [if_neg hlt] at hws
  have hw : wFrom l out 0 = wt := by omega
  have hwt : 1 ≤ wt := by omega
  clear hws hok hw0' hwb hw0
  repeat' (first | (first | refine Ya ?_ | refine Yb ?_ | refine Yc ?_ | refine Yd ?_ | refine Ye ?_ | refine Yf ?_ | refine Yg ?_ | refine Yh ?_ | refine Yi ?_ | refine Yj ?_ | refine Yk ?_ | refine Yl ?_ | refine Ym ?_ | refine Yn ?_ | refine Yo ?_ | refine Yp (h := ?_) | refine Yq ?_ | refine Yr ?_ | refine Ys ?_ | refine Zr hc (hk := ?_) | refine Zd hc (hk := ?_) | (refine Zc (ht := fun hb => ?_) (hf := fun hb => ?_) <;> (try simp at hb)) | fail) | (first | refine Zo hc (hk := ?_) | refine Zu hc (hk := ?_) | refine Ze hc (hk := ?_) | refine Zn hc (hk := ?_) | fail))
  all_goals try (exfalso; omega)
  refine ewp_loop (fun x : Nat × List Int × Int => ⟨[(0, .d (int x.2.2)), (1, .d (clmSl l)), (2, .os 100000 x.2.1.length), (7, .d (int wt)), (10, .d (int m)), (36, .d (clmSl l)), (37, .d (int l.length)), (38, .d (int x.1))], [owO x.2.1]⟩)
    (fun x => x.1 ≤ l.length ∧ Fits l x.2.1 ∧ 0 ≤ x.2.2 ∧ x.2.2 ≤ m ∧ (x.2.2 = m → x.2.1 = out) ∧ (m - x.2.2) * wt + m * wFrom l x.2.1 x.1 ≤ m * wt ∧ giveFrom l m wt 0 out m = giveFrom l m wt x.1 x.2.1 x.2.2) (fun x => l.length - x.1) (0, out, m) ⟨by simp, hf, by simp only; omega, by simp, fun _ => rfl, by simp [hw], rfl⟩ (run_keep [0, 1, 2, 7, 10, 36, 37, 38] [100000] (by simp; exact Gives.mk) (by simp; exact Gives.mk)) ?_
  rintro ⟨i2, out2, m2⟩ ⟨hi2, hf2, hm20, hm21, hsame, hle2, hgs⟩
  simp only at hi2 hf2 hm20 hm21 hsame hle2 hgs ⊢
  have hlen2 := hf2.len
  have hok2 := hf2.ok i2
  have hat2 := hf2.at_ i2
  rw [giveFrom.eq_1 l m wt i2 out2 m2] at hgs
  rw [wFrom.eq_1 l out2 i2] at hle2
  by_cases hlt2 : i2 < l.length
  · have hok2 := hok2 hlt2
    have hat2 := hat2 hlt2
    have hgk : 0 ≤ (m * (l[i2]?.getD (0, 0)).1).tdiv wt ∧ (m * (l[i2]?.getD (0, 0)).1).tdiv wt * wt ≤ m * (l[i2]?.getD (0, 0)).1 := give_k (by omega) hok2.1 hwt
    have hgm : 0 ≤ m * (l[i2]?.getD (0, 0)).1 ∧ m * (l[i2]?.getD (0, 0)).1 ≤ 1000000000 * 1000000 := ⟨Int.mul_nonneg (by omega) (by omega), Int.mul_le_mul hm1 hok2.2.1 (by omega) (by omega)⟩
    have hgt : (m * (l[i2]?.getD (0, 0)).1).tdiv wt ≤ m * (l[i2]?.getD (0, 0)).1 := (tdiv_bd _ _ hgm.1 hwt).2
    rw [if_pos hlt2] at hgs hle2
    repeat' (first | (first | refine Ya ?_ | refine Yb ?_ | refine Yc ?_ | refine Yd ?_ | refine Ye ?_ | refine Yf ?_ | refine Yg ?_ | refine Yh ?_ | refine Yi ?_ | refine Yj ?_ | refine Yk ?_ | refine Yl ?_ | refine Ym ?_ | refine Yn ?_ | refine Yo ?_ | refine Yp (h := ?_) | refine Yq ?_ | refine Yr ?_ | refine Ys ?_ | refine Zr hc (hk := ?_) | refine Zd hc (hk := ?_) | (refine Zc (ht := fun hb => ?_) (hf := fun hb => ?_) <;> (try simp at hb)) | fail) | (first | refine Zo hc (hk := ?_) | refine Zu hc (hk := ?_) | refine Ze hc (hk := ?_) | refine Zn hc (hk := ?_) | fail))
    all_goals try contradiction
    all_goals try (exfalso; omega)
    · have ho2 : out2[i2]?.getD 0 < (l[i2]?.getD (0, 0)).2 := by simpa using hb
      obtain ⟨hk0, hk1, hk2⟩ := give_take (most := (l[i2]?.getD (0, 0)).2) (o := out2[i2]?.getD 0) (show 0 ≤ m by omega) hok2.1 hwt ho2
      rw [if_pos ho2] at hgs hle2
      simp only at hgs
      generalize hk : (if (l[i2]?.getD (0, 0)).2 - out2[i2]?.getD 0 < (m * (l[i2]?.getD (0, 0)).1).tdiv wt then (l[i2]?.getD (0, 0)).2 - out2[i2]?.getD 0 else (m * (l[i2]?.getD (0, 0)).1).tdiv wt) = k at hgs hk0 hk1 hk2
      have hv := (wFrom_bd hf2 (i2 + 1) (by omega)).1
      obtain ⟨hg1, hg2⟩ := give_left (n := m2) hwt (by omega) hv hle2 hk2
      refine ⟨(i2 + 1, out2.set i2 (out2[i2]?.getD 0 + k), m2 - k), ⟨by simp only; omega, hf2.put (by omega) (by omega), hg2, by simp only; omega, ?_, ?_, hgs⟩, by simp only; omega, run_back [0, 1, 2, 7, 10, 36, 37, 38] [100000] (by simp; exact Gives.mk) (by simp; exact Gives.mk) (by simp [hk])⟩
      · simp only
        intro he
        obtain rfl : k = 0 := by omega
        rw [Int.add_zero, set_int]
        exact hsame (by omega)
      simp only
      rw [wFrom_set _ _ _ (by omega)]
      exact hg1
    · rw [if_neg (by simpa using hb)] at hgs hle2
      refine ⟨(i2 + 1, out2, m2), ⟨by simp only; omega, hf2, hm20, hm21, hsame, ?_, hgs⟩, by simp only; omega, run_back [0, 1, 2, 7, 10, 36, 37, 38] [100000] (by simp; exact Gives.mk) (by simp; exact Gives.mk) (by simp)⟩
      simp only
      rw [Int.zero_add] at hle2
      exact hle2
  rw [if_neg hlt2] at hgs
  repeat' (first | (first | refine Ya ?_ | refine Yb ?_ | refine Yc ?_ | refine Yd ?_ | refine Ye ?_ | refine Yf ?_ | refine Yg ?_ | refine Yh ?_ | refine Yi ?_ | refine Yj ?_ | refine Yk ?_ | refine Yl ?_ | refine Ym ?_ | refine Yn ?_ | refine Yo ?_ | refine Yp (h := ?_) | refine Yq ?_ | refine Yr ?_ | refine Ys ?_ | refine Zr hc (hk := ?_) | refine Zd hc (hk := ?_) | (refine Zc (ht := fun hb => ?_) (hf := fun hb => ?_) <;> (try simp at hb)) | fail) | (first | refine Zo hc (hk := ?_) | refine Zu hc (hk := ?_) | refine Ze hc (hk := ?_) | refine Zn hc (hk := ?_) | fail))
  all_goals try (exfalso; omega)
  · have hr : roundF l out m = (out2, m2) := by
      unfold roundF
      rw [hw, hgs, if_pos (by simpa using hb)]
    rw [hr]
    (refine run_leaveM [100000] hc (le_end rfl) (by simp; exact Gives.mk) (by simp; exact Gives.mk) (by first | (simp; done) | (simp; omega)) ?_)
    simp
  have hr0 : roundF l out m = oneFrom l 0 out2 m2 := by
    unfold roundF
    rw [hw, hgs, if_neg (by simp only; omega)]
  obtain rfl : m2 = m := by omega
  obtain rfl := hsame rfl
  clear hle2 hgs hok2 hat2
  refine ewp_loop (fun x : Nat × List Int × Int => ⟨[(0, .d (int x.2.2)), (2, .os 100000 x.2.1.length), (81, .d (clmSl l)), (82, .d (int l.length)), (83, .d (int x.1))], [owO x.2.1]⟩)
    (fun x => x.1 ≤ l.length ∧ Fits l x.2.1 ∧ 0 ≤ x.2.2 ∧ x.2.2 ≤ m2 ∧ oneFrom l 0 out2 m2 = oneFrom l x.1 x.2.1 x.2.2) (fun x => l.length - x.1) (0, out2, m2) ⟨by simp, hf2, hm20, by simp, rfl⟩ (run_keep [0, 2, 81, 82, 83] [100000] (by simp; exact Gives.mk) (by simp; exact Gives.mk)) ?_
  rintro ⟨i3, out3, m3⟩ ⟨hi3, hf3, hm30, hm31, hgs⟩
  simp only at hi3 hf3 hm30 hm31 hgs ⊢
  have hlen3 := hf3.len
  have hok3 := hf3.ok i3
  have hat3 := hf3.at_ i3
  rw [oneFrom.eq_1 l i3 out3 m3] at hgs
  by_cases hlt3 : i3 < l.length
  · have hok3 := hok3 hlt3
    have hat3 := hat3 hlt3
    rw [if_pos hlt3] at hgs
    repeat' (first | (first | refine Ya ?_ | refine Yb ?_ | refine Yc ?_ | refine Yd ?_ | refine Ye ?_ | refine Yf ?_ | refine Yg ?_ | refine Yh ?_ | refine Yi ?_ | refine Yj ?_ | refine Yk ?_ | refine Yl ?_ | refine Ym ?_ | refine Yn ?_ | refine Yo ?_ | refine Yp (h := ?_) | refine Yq ?_ | refine Yr ?_ | refine Ys ?_ | refine Zr hc (hk := ?_) | refine Zd hc (hk := ?_) | (refine Zc (ht := fun hb => ?_) (hf := fun hb => ?_) <;> (try simp at hb)) | fail) | (first | refine Zo hc (hk := ?_) | refine Zu hc (hk := ?_) | refine Ze hc (hk := ?_) | refine Zn hc (hk := ?_) | fail))
    all_goals try contradiction
    all_goals try (exfalso; omega)
    · rw [if_pos (by omega)] at hgs
      exact ⟨(i3 + 1, out3.set i3 (out3[i3]?.getD 0 + 1), m3 - 1), ⟨by simp only; omega, hf3.put (by omega) (by omega), by simp only; omega, by simp only; omega, hgs⟩, by simp only; omega, run_back [0, 2, 81, 82, 83] [100000] (by simp; exact Gives.mk) (by simp; exact Gives.mk) (by simp)⟩
    · rw [if_neg (by omega)] at hgs
      exact ⟨(i3 + 1, out3, m3), ⟨by simp only; omega, hf3, hm30, hm31, hgs⟩, by simp only; omega, run_back [0, 2, 81, 82, 83] [100000] (by simp; exact Gives.mk) (by simp; exact Gives.mk) (by simp)⟩
  rw [if_neg hlt3] at hgs
  rw [hr0, hgs]
  repeat' (first | (first | refine Ya ?_ | refine Yb ?_ | refine Yc ?_ | refine Yd ?_ | refine Ye ?_ | refine Yf ?_ | refine Yg ?_ | refine Yh ?_ | refine Yi ?_ | refine Yj ?_ | refine Yk ?_ | refine Yl ?_ | refine Ym ?_ | refine Yn ?_ | refine Yo ?_ | refine Yp (h := ?_) | refine Yq ?_ | refine Yr ?_ | refine Ys ?_ | refine Zr hc (hk := ?_) | refine Zd hc (hk := ?_) | (refine Zc (ht := fun hb => ?_) (hf := fun hb => ?_) <;> (try simp at hb)) | fail) | (first | refine Zo hc (hk := ?_) | refine Zu hc (hk := ?_) | refine Ze hc (hk := ?_) | refine Zn hc (hk := ?_) | fail))
  all_goals try (exfalso; omega)
  (refine run_leaveM [100000] hc (le_end rfl) (by simp; exact Gives.mk) (by simp; exact Gives.mk) (by first | (simp; done) | (simp; omega)) ?_)
  simp
def sharesD (n : Int) (l : List Clm) : D := if checkClaims n l ≠ 0 then .tup [.lit (.slice none 0 0), int (checkClaims n l)] else .tup [intSl (sharesF l (List.replicate l.length 0) n), int 0]
theorem claims_good {n : Int} {l : List Clm} (h : checkClaims n l = 0) : Fits l (List.replicate l.length 0) ∧ 0 ≤ n ∧ n ≤ 1000000000 := by
  unfold checkClaims at h
  split at h
  · cases h
  rename_i h1
  split at h
  · cases h
  rename_i h2
  split at h
  · cases h
  have hok := clmFrom_range l 0 (by simpa using h2)
  refine ⟨⟨by simp, by omega, fun i hi => hok i (by omega) hi, fun i hi => by have := hok i (by omega) hi; simp [hi] at this ⊢; omega⟩, by omega, by omega⟩
theorem most_take (l : List Clm) {j : Nat} (hj : j < l.length) : ((l.take (j + 1)).map (·.2)).sum = ((l.take j).map (·.2)).sum + (l[j]?.getD (0, 0)).2 := by
  rw [List.take_succ_eq_append_getElem hj, List.map_append, List.sum_append]
  simp [hj]
theorem most_bd {l : List Clm} {out : List Int} (h : Fits l out) (j : Nat) (hj : j ≤ l.length) : 0 ≤ ((l.take j).map (·.2)).sum ∧ ((l.take j).map (·.2)).sum ≤ 1000000 * (j : Int) := by
  induction j with
  | zero => simp
  | succ j ih =>
    have h1 := h.ok j (by omega)
    have h2 := ih (by omega)
    rw [most_take l (by omega)]
    omega
theorem min_if2 (a b : Int) : (if b < a then b else a) = min a b := by split <;> omega
theorem qShares_ok (n : Int) (l : List Clm) (hm : l.length ≤ 9223372036854775807) : FnOk Tryz.prog 25 [int n, clmSl l] (sharesD n l) := by
  refine fnOk Tryz.func25 rfl (by kernel_rfl) Tryz.ntmps25 _ rfl (by simp) fun C hc => ?_
  have h1 := qClaims_ok n l hm
  unfold sharesD
  by_cases he : checkClaims n l = 0
  rotate_left
  · rw [if_pos he]
    generalize checkClaims n l = e at h1 he ⊢
    repeat' (first | (first | refine Ya ?_ | refine Yb ?_ | refine Yc ?_ | refine Yd ?_ | refine Ye ?_ | refine Yf ?_ | refine Yg ?_ | refine Yh ?_ | refine Yi ?_ | refine Yj ?_ | refine Yk ?_ | refine Yl ?_ | refine Ym ?_ | refine Yn ?_ | refine Yo ?_ | refine Yp (h := ?_) | refine Yq ?_ | refine Yr ?_ | refine Ys ?_ | refine Zr hc (hk := ?_) | refine Zd hc (hk := ?_) | (refine Zc (ht := fun hb => ?_) (hf := fun hb => ?_) <;> (try simp at hb)) | fail) | (first | refine Zw hc (hf := by exact h1) (hk := ?_) | refine Zq hc (hf := by exact h1) (hk := ?_) | refine Zo hc (hk := ?_) | refine Zu hc (hk := ?_) | refine Ze hc (hk := ?_) | refine Zn hc (hk := ?_) | fail))
    all_goals try contradiction
    (refine Zl hc (hr := ?_))
    simp
  obtain ⟨hfit, n0, n1⟩ := claims_good he
  rw [if_neg (fun h => h he)]
  rw [he] at h1
  clear he
  have hmany := hfit.many
  repeat' (first | (first | refine Ya ?_ | refine Yb ?_ | refine Yc ?_ | refine Yd ?_ | refine Ye ?_ | refine Yf ?_ | refine Yg ?_ | refine Yh ?_ | refine Yi ?_ | refine Yj ?_ | refine Yk ?_ | refine Yl ?_ | refine Ym ?_ | refine Yn ?_ | refine Yo ?_ | refine Yp (h := ?_) | refine Yq ?_ | refine Yr ?_ | refine Ys ?_ | refine Zr hc (hk := ?_) | refine Zd hc (hk := ?_) | (refine Zc (ht := fun hb => ?_) (hf := fun hb => ?_) <;> (try simp at hb)) | fail) | (first | refine Zw hc (hf := by exact h1) (hk := ?_) | refine Zq hc (hf := by exact h1) (hk := ?_) | refine Zo hc (hk := ?_) | refine Zu hc (hk := ?_) | refine Ze hc (hk := ?_) | refine Zn hc (hk := ?_) | fail))
  all_goals try contradiction
  refine ewp_loop (fun j : Nat => ⟨[(0, .d (int n)), (1, .d (clmSl l)), (7, .d (int ((l.take j).map (·.2)).sum)), (19, .d (clmSl l)), (20, .d (int l.length)), (21, .d (int j))], []⟩) (fun j => j ≤ l.length) (fun j => l.length - j) 0 (Nat.zero_le _) (run_keep [0, 1, 7, 19, 20, 21] [] (by simp; exact Gives.mk) (by simp; exact Gives.mk)) ?_
  intro j hj
  have hmb := most_bd hfit j hj
  by_cases hlt : j < l.length
  · have hmt := most_take l hlt
    have hok := hfit.ok j hlt
    generalize ((l.take j).map (·.2)).sum = s at hmb hmt ⊢
    repeat' (first | (first | refine Ya ?_ | refine Yb ?_ | refine Yc ?_ | refine Yd ?_ | refine Ye ?_ | refine Yf ?_ | refine Yg ?_ | refine Yh ?_ | refine Yi ?_ | refine Yj ?_ | refine Yk ?_ | refine Yl ?_ | refine Ym ?_ | refine Yn ?_ | refine Yo ?_ | refine Yp (h := ?_) | refine Yq ?_ | refine Yr ?_ | refine Ys ?_ | refine Zr hc (hk := ?_) | refine Zd hc (hk := ?_) | (refine Zc (ht := fun hb => ?_) (hf := fun hb => ?_) <;> (try simp at hb)) | fail) | (first | refine Zo hc (hk := ?_) | refine Zu hc (hk := ?_) | refine Ze hc (hk := ?_) | refine Zn hc (hk := ?_) | fail))
    all_goals try contradiction
    all_goals try (exfalso; omega)
    exact ⟨j + 1, by omega, by omega, run_back [0, 1, 7, 19, 20, 21] [] (by simp; exact Gives.mk) (by simp; exact Gives.mk) (by simp only [hmt]; simp)⟩
  obtain rfl : j = l.length := by omega
  rw [List.take_length] at hmb ⊢
  have hsame := shares_same (l := l) n (List.replicate l.length 0) n hfit n0 (by simp)
  rw [← hsame]
  generalize hs : (l.map (·.2)).sum = s at hmb ⊢
  repeat' (first | (first | refine Ya ?_ | refine Yb ?_ | refine Yc ?_ | refine Yd ?_ | refine Ye ?_ | refine Yf ?_ | refine Yg ?_ | refine Yh ?_ | refine Yi ?_ | refine Yj ?_ | refine Yk ?_ | refine Yl ?_ | refine Ym ?_ | refine Yn ?_ | refine Yo ?_ | refine Yp (h := ?_) | refine Yq ?_ | refine Yr ?_ | refine Ys ?_ | refine Zr hc (hk := ?_) | refine Zd hc (hk := ?_) | (refine Zc (ht := fun hb => ?_) (hf := fun hb => ?_) <;> (try simp at hb)) | fail) | (first | refine Zo hc (hk := ?_) | refine Zu hc (hk := ?_) | refine Ze hc (hk := ?_) | refine Zn hc (hk := ?_) | fail))
  all_goals try contradiction
  all_goals try (exfalso; omega)
  refine ewp_loop (fun x : List Int × Int => ⟨[(0, .d (int n)), (1, .d (clmSl l)), (10, .os 32 x.1.length), (11, .d (int (min n s))), (12, .d (int x.2))], [(32, .own 3 1 (true, [int 0]) (x.1.map fun y => [int y]))]⟩)
    (fun x => Fits l x.1 ∧ 0 ≤ x.2 ∧ x.2 ≤ 1000000000 ∧ x.1.sum + x.2 = n ∧ sharesQ l n (min n s) (List.replicate l.length 0) n = sharesQ l n (min n s) x.1 x.2) (fun x => x.2.toNat) (List.replicate l.length 0, n) ⟨hfit, n0, n1, by simp, rfl⟩ (run_back [0, 1, 10, 11, 12] [32] (by simp; exact Gives.mk) (by simp; exact Gives.mk) (by simp [min_if2])) ?_
  rintro ⟨out, left⟩ ⟨hf, l0, l1, hsum, hq⟩
  simp only at hf l0 l1 hsum hq ⊢
  have hlen := hf.len
  rw [sharesQ.eq_1 l n (min n s) out left] at hq
  by_cases hlt : n - left < min n s
  · rw [if_pos hlt] at hq
    have hwn : wFrom l out 0 ≠ 0 := fun e => by
      have := w_full hf e
      omega
    have hl0 : 0 < left := by
      rcases Int.lt_or_eq_of_le l0 with h | h
      · exact h
      · exfalso; omega
    obtain ⟨a1, a2, a3, a4⟩ := round_spec out left hf hl0 hwn
    rw [dif_pos ⟨a3, a2⟩] at hq
    have hR := qRound_ok l out left hf hl0 l1 hwn
    generalize roundF l out left = r at a1 a2 a3 a4 hq hR
    obtain ⟨o2, l2⟩ := r
    simp only at a1 a2 a3 a4 hq hR
    have e2 := a1.len
    repeat' (first | (first | refine Ya ?_ | refine Yb ?_ | refine Yc ?_ | refine Yd ?_ | refine Ye ?_ | refine Yf ?_ | refine Yg ?_ | refine Yh ?_ | refine Yi ?_ | refine Yj ?_ | refine Yk ?_ | refine Yl ?_ | refine Ym ?_ | refine Yn ?_ | refine Yo ?_ | refine Yp (h := ?_) | refine Yq ?_ | refine Yr ?_ | refine Ys ?_ | refine Zr hc (hk := ?_) | refine Zd hc (hk := ?_) | (refine Zc (ht := fun hb => ?_) (hf := fun hb => ?_) <;> (try simp at hb)) | fail) | ((first | refine run_callM ([(100000, 32)]) (hR) hc (by simp; exact Gives.mk) (by simp; exact Gives.mk) (by simp; exact Gives.mk) (by simp; exact Gives.mk) (by simp; exact Gives.mk) rfl (by simp; exact Gives.mk) (by simp; exact Gives.mk) rfl (by simp) (by simp) (by simp; exact Gives.mk) (by simp; exact Gives.mk) ?_ | fail)) | (first | refine Zo hc (hk := ?_) | refine Zu hc (hk := ?_) | refine Ze hc (hk := ?_) | refine Zn hc (hk := ?_) | fail))
    all_goals try contradiction
    all_goals try (exfalso; omega)
    exact ⟨(o2, l2), ⟨a1, a2, by simp only; omega, by simp only; omega, hq⟩, by simp only; omega, run_back [0, 1, 10, 11, 12] [32] (by simp; exact Gives.mk) (by simp; exact Gives.mk) (by simp [hlen, e2])⟩
  rw [if_neg hlt] at hq
  rw [hq]
  repeat' (first | (first | refine Ya ?_ | refine Yb ?_ | refine Yc ?_ | refine Yd ?_ | refine Ye ?_ | refine Yf ?_ | refine Yg ?_ | refine Yh ?_ | refine Yi ?_ | refine Yj ?_ | refine Yk ?_ | refine Yl ?_ | refine Ym ?_ | refine Yn ?_ | refine Yo ?_ | refine Yp (h := ?_) | refine Yq ?_ | refine Yr ?_ | refine Ys ?_ | refine Zr hc (hk := ?_) | refine Zd hc (hk := ?_) | (refine Zc (ht := fun hb => ?_) (hf := fun hb => ?_) <;> (try simp at hb)) | fail) | (first | refine Zo hc (hk := ?_) | refine Zu hc (hk := ?_) | refine Ze hc (hk := ?_) | refine Zn hc (hk := ?_) | fail))
  all_goals try contradiction
  all_goals try (exfalso; omega)
  (refine Zl hc (hr := ?_))
  simp
end Go.Proofs.YtnainpghpjelcaaGreatDoor
/-
  POLITE: what the functions compute, on both sides (plain law).
-/
set_option linter.unusedSimpArgs false
set_option linter.unusedVariables false
namespace Go.Proofs.YtnainpghpjelcaaGreatDoor
open Go.Lw Go.RowKit
set_option maxRecDepth 100000
set_option maxHeartbeats 400000

/-- A fetch: its host, from when, to when. -/
abbrev Ftc := Bs × Int × Int
abbrev ftc0 : Ftc := ([], 0, 0)
abbrev ftcAt (L : List Ftc) (j : Nat) : Ftc := L[j]?.getD ftc0
abbrev ftcSl (L : List Ftc) : D := .sl L.length fun i => [str (ftcAt L i).1, int (ftcAt L i).2.1, int (ftcAt L i).2.2]
/-- A delay: its host, its seconds. -/
abbrev Dly := Bs × Int
abbrev dly0 : Dly := ([], 0)
abbrev dlyAt (L : List Dly) (j : Nat) : Dly := L[j]?.getD dly0
abbrev dlySl (L : List Dly) : D := .sl L.length fun i => [str (dlyAt L i).1, int (dlyAt L i).2]
def fetGo (L : List Ftc) (j : Nat) : Nat := if j < L.length then (if isHo (ftcAt L j).1 = false then 5 else if decide (okM (ftcAt L j).2.1) = false ∨ decide (okM (ftcAt L j).2.2) = false then 1 else if (ftcAt L j).2.2 < (ftcAt L j).2.1 ∨ 0 < j ∧ (ftcAt L j).2.1 < (ftcAt L (j - 1)).2.1 then 8 else fetGo L (j + 1)) else 0
termination_by L.length - j
def fetE (L : List Ftc) : Nat := if 2000 < L.length then 2 else fetGo L 0
def dlyGo (L : List Dly) (j : Nat) : Nat := if j < L.length then (if isHo (dlyAt L j).1 = false then 5 else if decide (0 ≤ (dlyAt L j).2 ∧ (dlyAt L j).2 ≤ 1000000) = false then 1 else if 0 < j ∧ leB (dlyAt L j).1 (dlyAt L (j - 1)).1 then 8 else dlyGo L (j + 1)) else 0
termination_by L.length - j
def dlyE (L : List Dly) : Nat := if 300 < L.length then 2 else dlyGo L 0
def polE (L : List Ftc) (B : List Dly) : Nat := if fetE L ≠ 0 then fetE L else dlyE B
theorem fetGo_good {L : List Ftc} (k : Nat) : ∀ j, L.length - j = k → fetGo L j = 0 → ∀ i, j ≤ i → i < L.length → okM (ftcAt L i).2.1 ∧ okM (ftcAt L i).2.2 := by
  induction k with
  | zero => intro j hj _ i h1 h2; omega
  | succ k ih =>
    intro j hj hg i h1 h2
    rw [fetGo, if_pos (by omega)] at hg
    split at hg
    · cases hg
    split at hg
    · cases hg
    rename_i h3
    split at hg
    · cases hg
    rcases Nat.eq_or_lt_of_le h1 with rfl | h
    · simp only [decide_eq_false_iff_not, not_or, Classical.not_not] at h3
      exact h3
    · exact ih (j + 1) (by omega) hg i h h2
theorem dlyGo_good {L : List Dly} (k : Nat) : ∀ j, L.length - j = k → dlyGo L j = 0 → ∀ i, j ≤ i → i < L.length → 0 ≤ (dlyAt L i).2 ∧ (dlyAt L i).2 ≤ 1000000 := by
  induction k with
  | zero => intro j hj _ i h1 h2; omega
  | succ k ih =>
    intro j hj hg i h1 h2
    rw [dlyGo, if_pos (by omega)] at hg
    split at hg
    · cases hg
    split at hg
    · cases hg
    rename_i h3
    split at hg
    · cases hg
    rcases Nat.eq_or_lt_of_le h1 with rfl | h
    · simpa using h3
    · exact ih (j + 1) (by omega) hg i h h2
/-- What was fetched, and the delays, if they are right. -/
structure PolOk (L : List Ftc) (B : List Dly) : Prop where
  many : L.length ≤ 2000
  from_ : ∀ i, i < L.length → okM (ftcAt L i).2.1
  to_ : ∀ i, i < L.length → okM (ftcAt L i).2.2
  few : B.length ≤ 300
  sec : ∀ i, i < B.length → 0 ≤ (dlyAt B i).2 ∧ (dlyAt B i).2 ≤ 1000000
theorem polE_good {L : List Ftc} {B : List Dly} (h : polE L B = 0) : PolOk L B := by
  unfold polE at h
  split at h
  · contradiction
  rename_i h1
  have h1 : fetE L = 0 := Classical.not_not.1 h1
  unfold fetE at h1
  split at h1
  · cases h1
  unfold dlyE at h
  split at h
  · cases h
  exact ⟨by omega, fun i hi => (fetGo_good _ 0 rfl h1 i (Nat.zero_le _) hi).1, fun i hi => (fetGo_good _ 0 rfl h1 i (Nat.zero_le _) hi).2, by omega, fun i hi => dlyGo_good _ 0 rfl h i (Nat.zero_le _) hi⟩
/-- The delay of a host: of the rows that name it, the last. -/
def dlyOf (B : List Dly) (h : Bs) : Int := B.foldl (fun d x => if x.1 = h then x.2 else d) 0
/-- From when on a host may be asked again. -/
def freeOf (B : List Dly) (L : List Ftc) (h : Bs) : Int := L.foldl (fun a y => if y.1 = h then max a (y.2.2 + dlyOf B h) else a) 0
def rudeB (B : List Dly) (L : List Ftc) (i : Nat) : Bool := (L.take i).any fun y => decide (y.1 = (ftcAt L i).1) && decide ((ftcAt L i).2.1 < y.2.2 + dlyOf B (ftcAt L i).1)
def rudes (B : List Dly) (L : List Ftc) (n : Nat) : List Int := ((List.range n).filter (rudeB B L)).map fun (i : Nat) => (i : Int)
theorem rudes_next (B : List Dly) (L : List Ftc) (n : Nat) : rudes B L (n + 1) = if rudeB B L n = true then rudes B L n ++ [(n : Int)] else rudes B L n := by
  unfold rudes
  rw [List.range_succ, List.filter_append, List.map_append]
  by_cases h : rudeB B L n = true
  · simp [h]
  · simp [h]
theorem rudes_len (B : List Dly) (L : List Ftc) (n : Nat) : (rudes B L n).length ≤ n := by
  unfold rudes
  rw [List.length_map]
  exact Nat.le_trans (List.length_filter_le _ _) (by simp)
theorem dlyOf_next (B : List Dly) {j : Nat} (hj : j < B.length) (h : Bs) : dlyOf (B.take (j + 1)) h = if (dlyAt B j).1 = h then (dlyAt B j).2 else dlyOf (B.take j) h := by
  unfold dlyOf
  rw [List.take_succ_eq_append_getElem hj, List.foldl_append]
  simp [dlyAt, List.getElem?_eq_getElem hj]
theorem freeOf_next (B : List Dly) (L : List Ftc) {j : Nat} (hj : j < L.length) (h : Bs) : freeOf B (L.take (j + 1)) h = if (ftcAt L j).1 = h then max (freeOf B (L.take j) h) ((ftcAt L j).2.2 + dlyOf B h) else freeOf B (L.take j) h := by
  unfold freeOf
  rw [List.take_succ_eq_append_getElem hj, List.foldl_append]
  simp [ftcAt, List.getElem?_eq_getElem hj]
theorem dlyOf_bd (B : List Dly) (hb : ∀ i, i < B.length → 0 ≤ (dlyAt B i).2 ∧ (dlyAt B i).2 ≤ 1000000) (h : Bs) : 0 ≤ dlyOf B h ∧ dlyOf B h ≤ 1000000 := by
  have key : ∀ (k : Nat), k ≤ B.length → 0 ≤ dlyOf (B.take k) h ∧ dlyOf (B.take k) h ≤ 1000000 := by
    intro k
    induction k with
    | zero => intro _; simp [dlyOf]
    | succ k ih =>
      intro hk
      rw [dlyOf_next B (by omega)]
      have := hb k (by omega)
      have := ih (by omega)
      split <;> omega
  have := key B.length (Nat.le_refl _)
  rwa [List.take_length] at this
theorem freeOf_bd {B : List Dly} {L : List Ftc} (ok : PolOk L B) (h : Bs) (k : Nat) (hk : k ≤ L.length) : 0 ≤ freeOf B (L.take k) h ∧ freeOf B (L.take k) h ≤ 253403300799 := by
  have hd := dlyOf_bd B ok.sec h
  induction k with
  | zero => simp [freeOf]
  | succ k ih =>
    rw [freeOf_next B L (by omega)]
    have h1 := ok.to_ k (by omega)
    have := ih (by omega)
    unfold okM at h1
    split <;> omega
theorem rude_free {B : List Dly} {L : List Ftc} {i : Nat} (h0 : 0 ≤ (ftcAt L i).2.1) : rudeB B L i = decide ((ftcAt L i).2.1 < freeOf B (L.take i) (ftcAt L i).1) := by
  unfold rudeB freeOf
  generalize ftcAt L i = x at h0 ⊢
  have key : ∀ (M : List Ftc) (a : Int), decide (x.2.1 < M.foldl (fun a y => if y.1 = x.1 then max a (y.2.2 + dlyOf B x.1) else a) a) = (decide (x.2.1 < a) || M.any fun y => decide (y.1 = x.1) && decide (x.2.1 < y.2.2 + dlyOf B x.1)) := by
    intro M
    induction M with
    | nil => intro a; rw [List.foldl_nil, List.any_nil, Bool.or_false]
    | cons y M ih =>
      intro a
      rw [List.foldl_cons, ih, List.any_cons]
      by_cases e : y.1 = x.1
      · rw [if_pos e]
        simp only [e, decide_true, Bool.true_and]
        rw [← Bool.or_assoc]
        congr 1
        rw [Bool.eq_iff_iff]
        simp only [Bool.or_eq_true, decide_eq_true_eq]
        omega
      · rw [if_neg e]
        simp [e]
  rw [key, decide_eq_false (by omega), Bool.false_or]
theorem any_next {α : Type} (p : α → Bool) (d : α) (L : List α) {j : Nat} (hj : j < L.length) : (L.take (j + 1)).any p = ((L.take j).any p || p (L[j]?.getD d)) := by
  rw [List.take_succ_eq_append_getElem hj, List.any_append, List.getElem?_eq_getElem hj]
  simp
def politeD (L : List Ftc) (B : List Dly) : D := if polE L B ≠ 0 then .tup [.lit (.slice none 0 0), int (polE L B)] else .tup [intSl (rudes B L L.length), int 0]
end Go.Proofs.YtnainpghpjelcaaGreatDoor
/-
  POLITE: the checks (both sides). (WITH run_drawN.)
-/
set_option linter.unusedSimpArgs false
set_option linter.unusedVariables false
namespace Go.Proofs.YtnainpghpjelcaaGreatDoor
open Go.Lw Go.RowKit
set_option maxRecDepth 100000
set_option maxHeartbeats 4000000

theorem frFetches_ok (L : List Ftc) (hl : L.length ≤ 9223372036854775807) (hn : ∀ j, (ftcAt L j).1.length ≤ 140737488351232) : FnOk Tryz.prog 75 [ftcSl L] (int (fetE L)) := by
  refine fnOk Tryz.func75 rfl (by kernel_rfl) Tryz.ntmps75 _ rfl (by simp) fun C hc => ?_
  unfold fetE
  repeat' (first | (first | refine Ya ?_ | refine Yb ?_ | refine Yc ?_ | refine Yd ?_ | refine Ye ?_ | refine Yf ?_ | refine Yg ?_ | refine Yh ?_ | refine Yi ?_ | refine Yj ?_ | refine Yk ?_ | refine Yl ?_ | refine Ym ?_ | refine Yn ?_ | refine Yo ?_ | refine Yp (h := ?_) | refine Yq ?_ | refine Yr ?_ | refine Ys ?_ | refine Zr hc (hk := ?_) | refine Zd hc (hk := ?_) | (refine Zc (ht := fun hb => ?_) (hf := fun hb => ?_) <;> (try simp at hb)) | fail) | (first | refine Zo hc (hk := ?_) | refine Zu hc (hk := ?_) | refine Ze hc (hk := ?_) | refine Zn hc (hk := ?_) | fail))
  · rw [if_pos (by omega)]
    (refine Zl hc (hr := ?_))
    simp
  rw [if_neg (by omega)]
  refine ewp_loop (fun j : Nat => ⟨[(0, .d (ftcSl L)), (8, .d (ftcSl L)), (9, .d (int L.length)), (10, .d (int j))], []⟩) (fun j => j ≤ L.length ∧ fetGo L 0 = fetGo L j) (fun j => L.length - j) 0 (by simp) (run_keep [0, 8, 9, 10] [] (by simp; exact Gives.mk) (by simp; exact Gives.mk)) ?_
  rintro j ⟨hj, hA⟩
  have hst : fetGo L j = if j < L.length then (if isHo (ftcAt L j).1 = false then 5 else if decide (okM (ftcAt L j).2.1) = false ∨ decide (okM (ftcAt L j).2.2) = false then 1 else if (ftcAt L j).2.2 < (ftcAt L j).2.1 ∨ 0 < j ∧ (ftcAt L j).2.1 < (ftcAt L (j - 1)).2.1 then 8 else fetGo L (j + 1)) else 0 := by rw [fetGo]
  have h1 := frHost_ok (ftcAt L j).1 (hn j)
  have h2 := frMoment_ok (ftcAt L j).2.1
  have h3 := frMoment_ok (ftcAt L j).2.2
  generalize isHo (ftcAt L j).1 = w1 at h1 hst
  generalize decide (okM (ftcAt L j).2.1) = w2 at h2 hst
  generalize decide (okM (ftcAt L j).2.2) = w3 at h3 hst
  by_cases hlt : j < L.length
  rotate_left
  · rw [if_neg hlt] at hst
    repeat' (first | (first | refine Ya ?_ | refine Yb ?_ | refine Yc ?_ | refine Yd ?_ | refine Ye ?_ | refine Yf ?_ | refine Yg ?_ | refine Yh ?_ | refine Yi ?_ | refine Yj ?_ | refine Yk ?_ | refine Yl ?_ | refine Ym ?_ | refine Yn ?_ | refine Yo ?_ | refine Yp (h := ?_) | refine Yq ?_ | refine Yr ?_ | refine Ys ?_ | refine Zr hc (hk := ?_) | refine Zd hc (hk := ?_) | (refine Zc (ht := fun hb => ?_) (hf := fun hb => ?_) <;> (try simp at hb)) | fail) | (first | refine Zo hc (hk := ?_) | refine Zu hc (hk := ?_) | refine Ze hc (hk := ?_) | refine Zn hc (hk := ?_) | fail))
    all_goals try (exfalso; omega)
    rw [hA, hst]
    (refine Zl hc (hr := ?_))
    simp
  rw [if_pos hlt] at hst
  repeat' (first | (first | refine Ya ?_ | refine Yb ?_ | refine Yc ?_ | refine Yd ?_ | refine Ye ?_ | refine Yf ?_ | refine Yg ?_ | refine Yh ?_ | refine Yi ?_ | refine Yj ?_ | refine Yk ?_ | refine Yl ?_ | refine Ym ?_ | refine Yn ?_ | refine Yo ?_ | refine Yp (h := ?_) | refine Yq ?_ | refine Yr ?_ | refine Ys ?_ | refine Zr hc (hk := ?_) | refine Zd hc (hk := ?_) | (refine Zc (ht := fun hb => ?_) (hf := fun hb => ?_) <;> (try simp at hb)) | fail) | (first | refine Zw hc (hf := by first | exact h1 | exact h2 | exact h3) (hk := ?_) | refine Zq hc (hf := by first | exact h1 | exact h2 | exact h3) (hk := ?_) | refine Zo hc (hk := ?_) | refine Zu hc (hk := ?_) | refine Ze hc (hk := ?_) | refine Zn hc (hk := ?_) | fail))
  all_goals try contradiction
  all_goals try (exfalso; omega)
  · rw [if_pos hb] at hst
    rw [hA, hst]
    (refine Zl hc (hr := ?_))
    simp
  · rename_i g1
    rw [if_neg (by simp [g1]), if_pos hb] at hst
    rw [hA, hst]
    (refine Zl hc (hr := ?_))
    simp
  · rename_i g1 g2
    rw [if_neg (by simp [g1]), if_neg (by simp [g2.1, g2.2]), if_pos hb] at hst
    rw [hA, hst]
    (refine Zl hc (hr := ?_))
    simp
  · rename_i g1 g2
    rw [if_neg (by simp [g1]), if_neg (by simp [g2.1, g2.2]), if_neg (by omega)] at hst
    exact ⟨j + 1, ⟨by omega, by rw [hA, hst]⟩, by omega, run_back [0, 8, 9, 10] [] (by simp; exact Gives.mk) (by simp; exact Gives.mk) (by simp)⟩
theorem frDelays_ok (L : List Dly) (hl : L.length ≤ 9223372036854775807) (hn : ∀ j, (dlyAt L j).1.length ≤ 140737488351232) : FnOk Tryz.prog 76 [dlySl L] (int (dlyE L)) := by
  refine fnOk Tryz.func76 rfl (by kernel_rfl) Tryz.ntmps76 _ rfl (by simp) fun C hc => ?_
  unfold dlyE
  repeat' (first | (first | refine Ya ?_ | refine Yb ?_ | refine Yc ?_ | refine Yd ?_ | refine Ye ?_ | refine Yf ?_ | refine Yg ?_ | refine Yh ?_ | refine Yi ?_ | refine Yj ?_ | refine Yk ?_ | refine Yl ?_ | refine Ym ?_ | refine Yn ?_ | refine Yo ?_ | refine Yp (h := ?_) | refine Yq ?_ | refine Yr ?_ | refine Ys ?_ | refine Zr hc (hk := ?_) | refine Zd hc (hk := ?_) | (refine Zc (ht := fun hb => ?_) (hf := fun hb => ?_) <;> (try simp at hb)) | fail) | (first | refine Zo hc (hk := ?_) | refine Zu hc (hk := ?_) | refine Ze hc (hk := ?_) | refine Zn hc (hk := ?_) | fail))
  · rw [if_pos (by omega)]
    (refine Zl hc (hr := ?_))
    simp
  rw [if_neg (by omega)]
  refine ewp_loop (fun j : Nat => ⟨[(0, .d (dlySl L)), (8, .d (dlySl L)), (9, .d (int L.length)), (10, .d (int j))], []⟩) (fun j => j ≤ L.length ∧ dlyGo L 0 = dlyGo L j) (fun j => L.length - j) 0 (by simp) (run_keep [0, 8, 9, 10] [] (by simp; exact Gives.mk) (by simp; exact Gives.mk)) ?_
  rintro j ⟨hj, hA⟩
  have hst : dlyGo L j = if j < L.length then (if isHo (dlyAt L j).1 = false then 5 else if decide (0 ≤ (dlyAt L j).2 ∧ (dlyAt L j).2 ≤ 1000000) = false then 1 else if 0 < j ∧ leB (dlyAt L j).1 (dlyAt L (j - 1)).1 then 8 else dlyGo L (j + 1)) else 0 := by rw [dlyGo]
  have h1 := frHost_ok (dlyAt L j).1 (hn j)
  have h2 := frWithin_ok (dlyAt L j).2 0 1000000
  generalize isHo (dlyAt L j).1 = w1 at h1 hst
  generalize decide (0 ≤ (dlyAt L j).2 ∧ (dlyAt L j).2 ≤ 1000000) = w2 at h2 hst
  by_cases hlt : j < L.length
  rotate_left
  · rw [if_neg hlt] at hst
    repeat' (first | (first | refine Ya ?_ | refine Yb ?_ | refine Yc ?_ | refine Yd ?_ | refine Ye ?_ | refine Yf ?_ | refine Yg ?_ | refine Yh ?_ | refine Yi ?_ | refine Yj ?_ | refine Yk ?_ | refine Yl ?_ | refine Ym ?_ | refine Yn ?_ | refine Yo ?_ | refine Yp (h := ?_) | refine Yq ?_ | refine Yr ?_ | refine Ys ?_ | refine Zr hc (hk := ?_) | refine Zd hc (hk := ?_) | (refine Zc (ht := fun hb => ?_) (hf := fun hb => ?_) <;> (try simp at hb)) | fail) | (first | refine Zo hc (hk := ?_) | refine Zu hc (hk := ?_) | refine Ze hc (hk := ?_) | refine Zn hc (hk := ?_) | fail))
    all_goals try (exfalso; omega)
    rw [hA, hst]
    (refine Zl hc (hr := ?_))
    simp
  rw [if_pos hlt] at hst
  repeat' (first | (first | refine Ya ?_ | refine Yb ?_ | refine Yc ?_ | refine Yd ?_ | refine Ye ?_ | refine Yf ?_ | refine Yg ?_ | refine Yh ?_ | refine Yi ?_ | refine Yj ?_ | refine Yk ?_ | refine Yl ?_ | refine Ym ?_ | refine Yn ?_ | refine Yo ?_ | refine Yp (h := ?_) | refine Yq ?_ | refine Yr ?_ | refine Ys ?_ | refine Zr hc (hk := ?_) | refine Zd hc (hk := ?_) | (refine Zc (ht := fun hb => ?_) (hf := fun hb => ?_) <;> (try simp at hb)) | fail) | (first | refine Zw hc (hf := by first | exact h1 | exact h2) (hk := ?_) | refine Zq hc (hf := by first | exact h1 | exact h2) (hk := ?_) | refine Zo hc (hk := ?_) | refine Zu hc (hk := ?_) | refine Ze hc (hk := ?_) | refine Zn hc (hk := ?_) | fail))
  all_goals try contradiction
  all_goals try (exfalso; omega)
  · rw [if_pos hb] at hst
    rw [hA, hst]
    (refine Zl hc (hr := ?_))
    simp
  · rename_i g1
    rw [if_neg (by simp [g1]), if_pos hb] at hst
    rw [hA, hst]
    (refine Zl hc (hr := ?_))
    simp
  · rename_i g1 g2
    rw [if_neg (by simp [g1]), if_neg (by simp [g2]), if_pos hb] at hst
    rw [hA, hst]
    (refine Zl hc (hr := ?_))
    simp
  · rename_i g1 g2
    rw [if_neg (by simp [g1]), if_neg (by simp [g2]), if_neg (not_leB hb)] at hst
    exact ⟨j + 1, ⟨by omega, by rw [hA, hst]⟩, by omega, run_back [0, 8, 9, 10] [] (by simp; exact Gives.mk) (by simp; exact Gives.mk) (by simp)⟩
theorem qFetches_ok (L : List Ftc) (B : List Dly) (hl : L.length ≤ 9223372036854775807) (hn : ∀ j, (ftcAt L j).1.length ≤ 140737488351232) (hl2 : B.length ≤ 9223372036854775807) (hn2 : ∀ j, (dlyAt B j).1.length ≤ 140737488351232) :
    FnOk Tryz.prog 77 [ftcSl L, dlySl B] (int (polE L B)) := by
  refine fnOk Tryz.func77 rfl (by kernel_rfl) Tryz.ntmps77 _ rfl (by simp) fun C hc => ?_
  unfold polE fetE
  repeat' (first | (first | refine Ya ?_ | refine Yb ?_ | refine Yc ?_ | refine Yd ?_ | refine Ye ?_ | refine Yf ?_ | refine Yg ?_ | refine Yh ?_ | refine Yi ?_ | refine Yj ?_ | refine Yk ?_ | refine Yl ?_ | refine Ym ?_ | refine Yn ?_ | refine Yo ?_ | refine Yp (h := ?_) | refine Yq ?_ | refine Yr ?_ | refine Ys ?_ | refine Zr hc (hk := ?_) | refine Zd hc (hk := ?_) | (refine Zc (ht := fun hb => ?_) (hf := fun hb => ?_) <;> (try simp at hb)) | fail) | (first | refine Zo hc (hk := ?_) | refine Zu hc (hk := ?_) | refine Ze hc (hk := ?_) | refine Zn hc (hk := ?_) | fail))
  · rw [if_pos (show 2000 < L.length by omega), if_pos (by decide)]
    (refine Zl hc (hr := ?_))
    simp
  rw [if_neg (show ¬ 2000 < L.length by omega)]
  refine ewp_loop (fun j : Nat => ⟨[(0, .d (ftcSl L)), (1, .d (dlySl B)), (12, .d (ftcSl L)), (13, .d (int L.length)), (14, .d (int j))], []⟩) (fun j => j ≤ L.length ∧ fetGo L 0 = fetGo L j) (fun j => L.length - j) 0 (by simp) (run_keep [0, 1, 12, 13, 14] [] (by simp; exact Gives.mk) (by simp; exact Gives.mk)) ?_
  rintro j ⟨hj, hA⟩
  have hst : fetGo L j = if j < L.length then (if isHo (ftcAt L j).1 = false then 5 else if decide (okM (ftcAt L j).2.1) = false ∨ decide (okM (ftcAt L j).2.2) = false then 1 else if (ftcAt L j).2.2 < (ftcAt L j).2.1 ∨ 0 < j ∧ (ftcAt L j).2.1 < (ftcAt L (j - 1)).2.1 then 8 else fetGo L (j + 1)) else 0 := by rw [fetGo]
  have h1 := qFrHost_ok (ftcAt L j).1 (hn j)
  have h2 := qFrWithin_ok (ftcAt L j).2.1 0 253402300799
  have h3 := qFrWithin_ok (ftcAt L j).2.2 0 253402300799
  have e1 : decide (okM (ftcAt L j).2.1) = decide (0 ≤ (ftcAt L j).2.1 ∧ (ftcAt L j).2.1 ≤ 253402300799) := rfl
  have e2 : decide (okM (ftcAt L j).2.2) = decide (0 ≤ (ftcAt L j).2.2 ∧ (ftcAt L j).2.2 ≤ 253402300799) := rfl
  rw [e1, e2] at hst
  clear e1 e2
  generalize isHo (ftcAt L j).1 = w1 at h1 hst
  generalize decide (0 ≤ (ftcAt L j).2.1 ∧ (ftcAt L j).2.1 ≤ 253402300799) = w2 at h2 hst
  generalize decide (0 ≤ (ftcAt L j).2.2 ∧ (ftcAt L j).2.2 ≤ 253402300799) = w3 at h3 hst
  by_cases hlt : j < L.length
  · rw [if_pos hlt] at hst
    repeat' (first | (first | refine Ya ?_ | refine Yb ?_ | refine Yc ?_ | refine Yd ?_ | refine Ye ?_ | refine Yf ?_ | refine Yg ?_ | refine Yh ?_ | refine Yi ?_ | refine Yj ?_ | refine Yk ?_ | refine Yl ?_ | refine Ym ?_ | refine Yn ?_ | refine Yo ?_ | refine Yp (h := ?_) | refine Yq ?_ | refine Yr ?_ | refine Ys ?_ | refine Zr hc (hk := ?_) | refine Zd hc (hk := ?_) | (refine Zc (ht := fun hb => ?_) (hf := fun hb => ?_) <;> (try simp at hb)) | fail) | (first | refine Zw hc (hf := by first | exact h1 | exact h2 | exact h3) (hk := ?_) | refine Zq hc (hf := by first | exact h1 | exact h2 | exact h3) (hk := ?_) | refine Zo hc (hk := ?_) | refine Zu hc (hk := ?_) | refine Ze hc (hk := ?_) | refine Zn hc (hk := ?_) | fail))
    all_goals try contradiction
    all_goals try (exfalso; omega)
    · rw [if_pos hb] at hst
      rw [hA, hst, if_pos (by decide)]
      (refine Zl hc (hr := ?_))
      simp
    · rename_i g1
      rw [if_neg (by simp [g1]), if_pos hb] at hst
      rw [hA, hst, if_pos (by decide)]
      (refine Zl hc (hr := ?_))
      simp
    · rename_i g1 g2
      rw [if_neg (by simp [g1]), if_neg (by simp [g2.1, g2.2]), if_pos hb] at hst
      rw [hA, hst, if_pos (by decide)]
      (refine Zl hc (hr := ?_))
      simp
    · rename_i g1 g2
      rw [if_neg (by simp [g1]), if_neg (by simp [g2.1, g2.2]), if_neg (by omega)] at hst
      exact ⟨j + 1, ⟨by omega, by rw [hA, hst]⟩, by omega, run_back [0, 1, 12, 13, 14] [] (by simp; exact Gives.mk) (by simp; exact Gives.mk) (by simp)⟩
  rw [if_neg hlt] at hst
  rw [hA, hst, if_neg (fun h => h rfl)]
  clear hst hA h1 h2 h3
  unfold dlyE
  repeat' (first | (first | refine Ya ?_ | refine Yb ?_ | refine Yc ?_ | refine Yd ?_ | refine Ye ?_ | refine Yf ?_ | refine Yg ?_ | refine Yh ?_ | refine Yi ?_ | refine Yj ?_ | refine Yk ?_ | refine Yl ?_ | refine Ym ?_ | refine Yn ?_ | refine Yo ?_ | refine Yp (h := ?_) | refine Yq ?_ | refine Yr ?_ | refine Ys ?_ | refine Zr hc (hk := ?_) | refine Zd hc (hk := ?_) | (refine Zc (ht := fun hb => ?_) (hf := fun hb => ?_) <;> (try simp at hb)) | fail) | (first | refine Zo hc (hk := ?_) | refine Zu hc (hk := ?_) | refine Ze hc (hk := ?_) | refine Zn hc (hk := ?_) | fail))
  all_goals try (exfalso; omega)
  · rw [if_pos (show 300 < B.length by omega)]
    (refine Zl hc (hr := ?_))
    simp
  rw [if_neg (show ¬ 300 < B.length by omega)]
  refine ewp_loop (fun j : Nat => ⟨[(1, .d (dlySl B)), (60, .d (dlySl B)), (61, .d (int B.length)), (62, .d (int j))], []⟩) (fun j => j ≤ B.length ∧ dlyGo B 0 = dlyGo B j) (fun j => B.length - j) 0 (by simp) (run_keep [1, 60, 61, 62] [] (by simp; exact Gives.mk) (by simp; exact Gives.mk)) ?_
  rintro k ⟨hk, hA⟩
  have hst : dlyGo B k = if k < B.length then (if isHo (dlyAt B k).1 = false then 5 else if decide (0 ≤ (dlyAt B k).2 ∧ (dlyAt B k).2 ≤ 1000000) = false then 1 else if 0 < k ∧ leB (dlyAt B k).1 (dlyAt B (k - 1)).1 then 8 else dlyGo B (k + 1)) else 0 := by rw [dlyGo]
  have h1 := qFrHost_ok (dlyAt B k).1 (hn2 k)
  have h2 := qFrWithin_ok (dlyAt B k).2 0 1000000
  generalize isHo (dlyAt B k).1 = w1 at h1 hst
  generalize decide (0 ≤ (dlyAt B k).2 ∧ (dlyAt B k).2 ≤ 1000000) = w2 at h2 hst
  by_cases hlt2 : k < B.length
  rotate_left
  · rw [if_neg hlt2] at hst
    repeat' (first | (first | refine Ya ?_ | refine Yb ?_ | refine Yc ?_ | refine Yd ?_ | refine Ye ?_ | refine Yf ?_ | refine Yg ?_ | refine Yh ?_ | refine Yi ?_ | refine Yj ?_ | refine Yk ?_ | refine Yl ?_ | refine Ym ?_ | refine Yn ?_ | refine Yo ?_ | refine Yp (h := ?_) | refine Yq ?_ | refine Yr ?_ | refine Ys ?_ | refine Zr hc (hk := ?_) | refine Zd hc (hk := ?_) | (refine Zc (ht := fun hb => ?_) (hf := fun hb => ?_) <;> (try simp at hb)) | fail) | (first | refine Zo hc (hk := ?_) | refine Zu hc (hk := ?_) | refine Ze hc (hk := ?_) | refine Zn hc (hk := ?_) | fail))
    all_goals try (exfalso; omega)
    rw [hA, hst]
    (refine Zl hc (hr := ?_))
    simp
  rw [if_pos hlt2] at hst
  repeat' (first | (first | refine Ya ?_ | refine Yb ?_ | refine Yc ?_ | refine Yd ?_ | refine Ye ?_ | refine Yf ?_ | refine Yg ?_ | refine Yh ?_ | refine Yi ?_ | refine Yj ?_ | refine Yk ?_ | refine Yl ?_ | refine Ym ?_ | refine Yn ?_ | refine Yo ?_ | refine Yp (h := ?_) | refine Yq ?_ | refine Yr ?_ | refine Ys ?_ | refine Zr hc (hk := ?_) | refine Zd hc (hk := ?_) | (refine Zc (ht := fun hb => ?_) (hf := fun hb => ?_) <;> (try simp at hb)) | fail) | (first | refine Zw hc (hf := by first | exact h1 | exact h2) (hk := ?_) | refine Zq hc (hf := by first | exact h1 | exact h2) (hk := ?_) | refine Zo hc (hk := ?_) | refine Zu hc (hk := ?_) | refine Ze hc (hk := ?_) | refine Zn hc (hk := ?_) | fail))
  all_goals try contradiction
  all_goals try (exfalso; omega)
  · rw [if_pos hb] at hst
    rw [hA, hst]
    (refine Zl hc (hr := ?_))
    simp
  · rename_i g1
    rw [if_neg (by simp [g1]), if_pos hb] at hst
    rw [hA, hst]
    (refine Zl hc (hr := ?_))
    simp
  · rename_i g1 g2
    rw [if_neg (by simp [g1]), if_neg (by simp [g2]), if_pos hb] at hst
    rw [hA, hst]
    (refine Zl hc (hr := ?_))
    simp
  · rename_i g1 g2
    rw [if_neg (by simp [g1]), if_neg (by simp [g2]), if_neg (not_leB hb)] at hst
    exact ⟨k + 1, ⟨by omega, by rw [hA, hst]⟩, by omega, run_back [1, 60, 61, 62] [] (by simp; exact Gives.mk) (by simp; exact Gives.mk) (by simp)⟩
end Go.Proofs.YtnainpghpjelcaaGreatDoor
/-
  SHARES, POLITE: what comes in, read as data.
-/
set_option linter.unusedSimpArgs false
set_option linter.unusedVariables false
namespace Go.Proofs.YtnainpghpjelcaaGreatDoor
open Go.Lw Go.RowKit Go.ChangeShapes Go.WideShapes Go.ChangeAt
set_option maxRecDepth 100000
set_option maxHeartbeats 1000000

theorem opn_claim : Opn Tryz.prog 106 (fun x : Clm => [int x.1, int x.2]) (fun v => inR .i64 v.1 ∧ inR .i64 v.2) :=
  (opn_flds (total := 2) Tryz.underlying106 rfl (by kernel_rfl) (flds_cons (n := 1) (by kernel_rfl) (by simp) (opn_int Tryz.underlying3) (flds_cons (n := 1) (by kernel_rfl) (by simp) (opn_int Tryz.underlying3) flds_nil))).map
    (fun x => ((x.1, x.2.1) : Clm)) (fun _ _ => rfl) (fun _ h => ⟨h.1, h.2.1⟩)
theorem opnA_claims : OpnA Tryz.prog 45 clmSl (fun l => l.length ≤ maxLen ∧ ∀ x ∈ l, inR .i64 x.1 ∧ inR .i64 x.2) :=
  opnA_cell ((opn_slice ((0, 0) : Clm) Tryz.underlying45 (n := 2) (by kernel_rfl) (by omega) opn_claim).map (fun l => l) (fun l _ => by simp [clmAt, clmSl]) (fun _ h => h)) (fun _ => rfl) (by kernel_rfl)
def FtcFits (x : Ftc) : Prop := x.1.length ≤ reachBytes ∧ inR .i64 x.2.1 ∧ inR .i64 x.2.2
theorem opn_ftc : Opn Tryz.prog 115 (fun x : Ftc => [str x.1, int x.2.1, int x.2.2]) FtcFits :=
  (opn_flds (total := 3) Tryz.underlying115 rfl (by kernel_rfl) (flds_cons (n := 1) (by kernel_rfl) (by simp) opn_sW (flds_cons (n := 1) (by kernel_rfl) (by simp) (opn_int Tryz.underlying3) (flds_cons (n := 1) (by kernel_rfl) (by simp) (opn_int Tryz.underlying3) flds_nil)))).map
    (fun x => ((x.1, x.2.1, x.2.2.1) : Ftc)) (fun _ _ => rfl) (fun _ h => ⟨h.1, h.2.1, h.2.2.1⟩)
def FtcsFit (l : List Ftc) : Prop := l.length ≤ maxLen ∧ ∀ x ∈ l, FtcFits x
theorem opnA_ftcs : OpnA Tryz.prog 46 ftcSl FtcsFit :=
  opnA_cell ((opn_slice (ftc0 : Ftc) Tryz.underlying46 (n := 3) (by kernel_rfl) (by omega) opn_ftc).map (fun l => l) (fun l _ => by simp [ftcAt, ftcSl]) (fun _ h => h)) (fun _ => rfl) (by kernel_rfl)
def DlyFits (x : Dly) : Prop := x.1.length ≤ reachBytes ∧ inR .i64 x.2
theorem opn_dly : Opn Tryz.prog 113 (fun x : Dly => [str x.1, int x.2]) DlyFits :=
  (opn_flds (total := 2) Tryz.underlying113 rfl (by kernel_rfl) (flds_cons (n := 1) (by kernel_rfl) (by simp) opn_sW (flds_cons (n := 1) (by kernel_rfl) (by simp) (opn_int Tryz.underlying3) flds_nil))).map
    (fun x => ((x.1, x.2.1) : Dly)) (fun _ _ => rfl) (fun _ h => ⟨h.1, h.2.1⟩)
def DlysFit (l : List Dly) : Prop := l.length ≤ maxLen ∧ ∀ x ∈ l, DlyFits x
theorem opnA_dlys : OpnA Tryz.prog 47 dlySl DlysFit :=
  opnA_cell ((opn_slice (dly0 : Dly) Tryz.underlying47 (n := 2) (by kernel_rfl) (by omega) opn_dly).map (fun l => l) (fun l _ => by simp [dlyAt, dlySl]) (fun _ h => h)) (fun _ => rfl) (by kernel_rfl)
theorem ftc_names {l : List Ftc} (h : FtcsFit l) (j : Nat) : (ftcAt l j).1.length ≤ 140737488351232 := by
  rcases Nat.lt_or_ge j l.length with hj | hj
  · simp only [ftcAt, List.getElem?_eq_getElem hj, Option.getD_some]
    exact (h.2 _ (List.getElem_mem hj)).1
  · simp only [ftcAt, List.getElem?_eq_none hj]
    simp
theorem dly_names {l : List Dly} (h : DlysFit l) (j : Nat) : (dlyAt l j).1.length ≤ 140737488351232 := by
  rcases Nat.lt_or_ge j l.length with hj | hj
  · simp only [dlyAt, List.getElem?_eq_getElem hj, Option.getD_some]
    exact (h.2 _ (List.getElem_mem hj)).1
  · simp only [dlyAt, List.getElem?_eq_none hj]
    simp
end Go.Proofs.YtnainpghpjelcaaGreatDoor
