/-
  FRONTIER: shares: what the functions compute.
-/
import Derived.Test.YtgflkcfghmncmaaFrAwake
namespace Go.Proofs.Ytgflkcfghmncmaa
open Go.Lw
set_option maxRecDepth 100000
set_option maxHeartbeats 400000

/-! The plain functions. -/
abbrev Clm := Int × Int
def encClm (c : Clm) : List D := [.lit (.int .i64 c.1), .lit (.int .i64 c.2)]
abbrev clmSl (l : List Clm) : D := .sl l.length fun i => encClm (l.getD i (0, 0))
attribute [simp] encClm
abbrev encI (n : Int) : List D := [int n]
abbrev intSl (l : List Int) : D := .sl l.length fun i => encI (l.getD i 0)

@[simp] theorem getD_encI (o : Option Int) : (o.map encI).getD [.lit (.int .i64 0)] = encI (o.getD 0) := by cases o <;> rfl

def clmFrom (l : List Clm) (j : Nat) : Bool :=
  if j < l.length then
    if (l[j]?.getD (0, 0)).1 < 1 ∨ 1000000 < (l[j]?.getD (0, 0)).1 ∨ (l[j]?.getD (0, 0)).2 < 0 ∨ 1000000 < (l[j]?.getD (0, 0)).2 then true else clmFrom l (j + 1)
  else false
termination_by l.length - j
def checkClaims (n : Int) (l : List Clm) : Int := if 300 < l.length then 2 else if clmFrom l 0 = true then 1 else if n < 0 ∨ 1000000000 < n then 1 else 0

theorem clmFrom_range (l : List Clm) (j : Nat) (h : clmFrom l j = false) : ∀ i, j ≤ i → i < l.length → 1 ≤ (l[i]?.getD (0, 0)).1 ∧ (l[i]?.getD (0, 0)).1 ≤ 1000000 ∧ 0 ≤ (l[i]?.getD (0, 0)).2 ∧ (l[i]?.getD (0, 0)).2 ≤ 1000000 := by
  intro i hi hl
  rw [clmFrom, if_pos (by omega)] at h
  split at h
  · cases h
  · rcases Nat.eq_or_lt_of_le hi with rfl | hlt
    · omega
    · exact clmFrom_range l (j + 1) h i (by omega) hl
termination_by l.length - j

def wFrom (l : List Clm) (out : List Int) (j : Nat) : Int :=
  if j < l.length then (if out[j]?.getD 0 < (l[j]?.getD (0, 0)).2 then (l[j]?.getD (0, 0)).1 else 0) + wFrom l out (j + 1) else 0
termination_by l.length - j
def giveFrom (l : List Clm) (whole weight : Int) (j : Nat) (out : List Int) (n : Int) : List Int × Int :=
  if j < l.length then
    if out[j]?.getD 0 < (l[j]?.getD (0, 0)).2 then
      let k := if (l[j]?.getD (0, 0)).2 - out[j]?.getD 0 < (whole * (l[j]?.getD (0, 0)).1).tdiv weight then (l[j]?.getD (0, 0)).2 - out[j]?.getD 0 else (whole * (l[j]?.getD (0, 0)).1).tdiv weight
      giveFrom l whole weight (j + 1) (out.set j (out[j]?.getD 0 + k)) (n - k)
    else giveFrom l whole weight (j + 1) out n
  else (out, n)
termination_by l.length - j
def oneFrom (l : List Clm) (j : Nat) (out : List Int) (n : Int) : List Int × Int :=
  if j < l.length then
    if out[j]?.getD 0 < (l[j]?.getD (0, 0)).2 ∧ 0 < n then oneFrom l (j + 1) (out.set j (out[j]?.getD 0 + 1)) (n - 1)
    else oneFrom l (j + 1) out n
  else (out, n)
termination_by l.length - j
def roundF (l : List Clm) (out : List Int) (n : Int) : List Int × Int :=
  let r := giveFrom l n (wFrom l out 0) 0 out n
  if r.2 < n then r else oneFrom l 0 r.1 r.2
def sharesF (l : List Clm) (out : List Int) (n : Int) : List Int :=
  if h0 : 0 < n then
    if wFrom l out 0 = 0 then out else
      if h : (roundF l out n).2 < n then sharesF l (roundF l out n).1 (roundF l out n).2 else out
  else out
termination_by n.toNat
decreasing_by omega

/-! What holds of them. -/
/-- The claims are right, and what was given out is within them. -/
structure Fits (l : List Clm) (out : List Int) : Prop where
  len : out.length = l.length
  many : l.length ≤ 300
  ok : ∀ i, i < l.length → 1 ≤ (l[i]?.getD (0, 0)).1 ∧ (l[i]?.getD (0, 0)).1 ≤ 1000000 ∧ 0 ≤ (l[i]?.getD (0, 0)).2 ∧ (l[i]?.getD (0, 0)).2 ≤ 1000000
  at_ : ∀ i, i < l.length → 0 ≤ out[i]?.getD 0 ∧ out[i]?.getD 0 ≤ (l[i]?.getD (0, 0)).2

theorem Fits.put {l : List Clm} {out : List Int} (h : Fits l out) {j : Nat} {x : Int} (h0 : 0 ≤ x) (h1 : x ≤ (l[j]?.getD (0, 0)).2) : Fits l (out.set j x) := by
  refine ⟨by simp [h.len], h.many, h.ok, fun i hi => ?_⟩
  have := h.at_ i hi
  have hl := h.len
  by_cases e : j = i
  · subst e
    rw [List.getElem?_set_self (by omega)]
    exact ⟨h0, h1⟩
  · rw [List.getElem?_set_ne e]
    exact this

theorem wFrom_bd {l : List Clm} {out : List Int} (h : Fits l out) (j : Nat) (hj : j ≤ l.length) : 0 ≤ wFrom l out j ∧ wFrom l out j ≤ 1000000 * ((l.length - j : Nat) : Int) := by
  rw [wFrom]
  split
  · rename_i hlt
    have := wFrom_bd h (j + 1) (by omega)
    have := h.ok j hlt
    split <;> omega
  · omega
termination_by l.length - j
/-- What stands behind a place alone tells the weight from there on. -/
theorem wFrom_set {l : List Clm} {out : List Int} (k : Nat) (x : Int) (j : Nat) (hk : k < j) : wFrom l (out.set k x) j = wFrom l out j := by
  rw [wFrom]
  conv => rhs; rw [wFrom]
  split
  · rw [List.getElem?_set_ne (by omega), wFrom_set k x (j + 1) (by omega)]
  · rfl
termination_by l.length - j

theorem give_k {whole weight w : Int} (h0 : 0 ≤ whole) (hw : 1 ≤ w) (hwt : 1 ≤ weight) : 0 ≤ (whole * w).tdiv weight ∧ (whole * w).tdiv weight * weight ≤ whole * w := by
  have h1 : 0 ≤ whole * w := Int.mul_nonneg h0 (by omega)
  rw [Int.tdiv_eq_ediv_of_nonneg h1]
  exact ⟨Int.ediv_nonneg h1 (by omega), Int.ediv_mul_le _ (by omega)⟩

/-- How much is given away, at a place of the round: no more than those before it may weigh. -/
theorem give_left {whole weight n k w v : Int} (hwt : 1 ≤ weight) (hw0 : 0 ≤ whole) (hv : 0 ≤ v) (h : (whole - n) * weight + whole * (w + v) ≤ whole * weight) (hk : k * weight ≤ whole * w) :
    (whole - (n - k)) * weight + whole * v ≤ whole * weight ∧ 0 ≤ n - k := by
  have e1 : (whole - (n - k)) * weight = (whole - n) * weight + k * weight := by
    rw [show whole - (n - k) = (whole - n) + k by omega, Int.add_mul]
  have e2 : whole * (w + v) = whole * w + whole * v := Int.mul_add _ _ _
  have h1 : (whole - (n - k)) * weight + whole * v ≤ whole * weight := by omega
  refine ⟨h1, ?_⟩
  have h2 : 0 ≤ whole * v := Int.mul_nonneg hw0 hv
  have h3 : (whole - (n - k)) * weight ≤ whole * weight := by omega
  have h4 : 0 ≤ (n - k) * weight := by
    have : (whole - (n - k)) * weight = whole * weight - (n - k) * weight := Int.sub_mul _ _ _
    omega
  rcases Int.lt_or_le (n - k) 0 with hn | hn
  · exfalso
    have : (n - k) * weight < 0 := Int.mul_neg_of_neg_of_pos hn (by omega)
    omega
  · exact hn
theorem give_take {whole weight w most o : Int} (h0 : 0 ≤ whole) (hw : 1 ≤ w) (hwt : 1 ≤ weight) (ho : o < most) :
    0 ≤ (if most - o < (whole * w).tdiv weight then most - o else (whole * w).tdiv weight) ∧ (if most - o < (whole * w).tdiv weight then most - o else (whole * w).tdiv weight) ≤ most - o ∧
    (if most - o < (whole * w).tdiv weight then most - o else (whole * w).tdiv weight) * weight ≤ whole * w := by
  obtain ⟨h1, h2⟩ := give_k h0 hw hwt
  split
  · refine ⟨by omega, by omega, Int.le_trans (Int.mul_le_mul_of_nonneg_right (by omega) (by omega)) h2⟩
  · exact ⟨h1, by omega, h2⟩
theorem set_same (l : List Int) (i : Nat) : l.set i (l[i]?.getD 0) = l := by
  by_cases h : i < l.length
  · simp [h]
  · exact List.set_eq_of_length_le (by omega)
end Go.Proofs.Ytgflkcfghmncmaa
