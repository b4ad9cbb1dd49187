/-
  DIVIDED AND JOINED, IN PLAIN LEAN.
-/
import Derived.Test.YtjbabjfmcganpaaGreatDoorAdK
set_option linter.unusedSimpArgs false
set_option linter.unusedVariables false
namespace Go.Proofs.YtjbabjfmcganpaaGreatDoor
open Go.Lw
set_option maxRecDepth 100000
set_option maxHeartbeats 1000000

theorem ix_none (c : UInt8) (s : Bs) (h : c ∉ s) : Lib.index s [c] = -1 := by
  rw [Lib.index_one]
  have h1 := index_neg s c
  have h2 := Lib.indexByte_ge s c
  have : s.contains c = false := by simpa using h
  have := h1.2 this
  omega
theorem ix_app (c : UInt8) : ∀ (x y : Bs), c ∉ x → Lib.index (x ++ c :: y) [c] = x.length := by
  intro x y h
  rw [Lib.index_one]
  induction x with
  | nil => simp [Lib.indexByte]
  | cons b x ih =>
    have h1 : ¬ b = c := fun e => h (by rw [e]; exact List.mem_cons_self)
    have h2 := ih (fun e => h (List.mem_cons_of_mem _ e))
    simp only [List.cons_append, Lib.indexByte, h2]
    rw [if_neg (by simpa using h1), if_neg (by first | (simp; done) | (simp; omega))]
    simp
/-- A text is free of a byte, or has it for the first time somewhere. -/
theorem parted (c : UInt8) (s : Bs) : c ∉ s ∨ ∃ x y, s = x ++ c :: y ∧ c ∉ x := by
  by_cases h : c ∈ s
  · right
    induction s with
    | nil => cases h
    | cons b s ih =>
      by_cases hb : b = c
      · exact ⟨[], s, by rw [hb]; rfl, by simp⟩
      · obtain ⟨x, y, e, hx⟩ := ih (by cases h with | head => exact absurd rfl hb | tail _ h => exact h)
        exact ⟨b :: x, y, by rw [e]; rfl, by simp; exact ⟨fun e => hb e.symm, hx⟩⟩
  · exact .inl h
theorem split_none (c : UInt8) (s : Bs) (h : c ∉ s) : Lib.split s [c] = [s] := by
  unfold Lib.split
  rw [Lib.count_miss (ix_none c s h)]
  rfl
theorem split_app (c : UInt8) (x y : Bs) (h : c ∉ x) : Lib.split (x ++ c :: y) [c] = x :: Lib.split y [c] := by
  have hi := ix_app c x y h
  unfold Lib.split
  rw [Lib.count_hit (by simp) hi, Nat.add_comm 1, Lib.splitK, if_neg (by rw [hi]; first | (simp; done) | (simp; omega)), hi]
  have e : (x ++ c :: y).drop (x.length + 1) = y := by
    rw [show x ++ c :: y = (x ++ [c]) ++ y by simp]
    exact List.drop_left' (by simp)
  simp only [Int.toNat_natCast, List.length_cons, List.length_nil, Nat.zero_add, Nat.add_zero, e]
  rw [List.take_left]
theorem split_ne (c : UInt8) (s : Bs) : Lib.split s [c] ≠ [] := by
  rcases parted c s with h | ⟨x, y, rfl, h⟩
  · rw [split_none c s h]; simp
  · rw [split_app c x y h]; simp
theorem join_two (x y : Bs) (L : List Bs) (s : Bs) : Lib.join (x :: y :: L) s = x ++ s ++ Lib.join (y :: L) s := by
  rw [Lib.join_cons, Lib.join_cons]
  simp [Lib.joinTail]
theorem join_step (x : Bs) (L : List Bs) (s : Bs) (h : L ≠ []) : Lib.join (x :: L) s = x ++ s ++ Lib.join L s := by
  cases L with
  | nil => exact absurd rfl h
  | cons y L => exact join_two x y L s
theorem join_split (c : UInt8) (s : Bs) : Lib.join (Lib.split s [c]) [c] = s := by
  generalize hn : s.length = n
  induction n using Nat.strongRecOn generalizing s with
  | _ n ih =>
    rcases parted c s with h | ⟨x, y, rfl, h⟩
    · rw [split_none c s h, Lib.join_one]
    · rw [split_app c x y h, join_step _ _ _ (split_ne c y), ih y.length (by simp at hn; omega) y rfl]
      simp
end Go.Proofs.YtjbabjfmcganpaaGreatDoor
/-
  DOMAINS, IN PLAIN LEAN.
-/
set_option linter.unusedSimpArgs false
set_option linter.unusedVariables false
namespace Go.Proofs.YtjbabjfmcganpaaGreatDoor
open Go.Lw
set_option maxRecDepth 100000
set_option maxHeartbeats 1000000

def isHostS (s : Bs) : Bool := isHostB s && decide (small s = s)
/-- The labels of a suffix. -/
def sufL (s : Bs) : Bs := if [42, 46] <+: s then s.drop 2 else if [33] <+: s then s.drop 1 else s
def leS (a b : Bs) : Bool := Op.bytesLess a b || a == b
def sufFrom (l : List Bs) (j : Nat) : Nat :=
  if j < l.length then
    (if isHostS (sufL (l[j]?.getD [])) = false then 3 else if 0 < j ∧ leS (l[j]?.getD []) (l[j - 1]?.getD []) = true then 8 else sufFrom l (j + 1))
  else 0
termination_by l.length - j
def sufC (l : List Bs) : Nat := if 500 < l.length then 2 else sufFrom l 0
/-- The last n labels of a host, as a text. -/
def tailS (L : List Bs) (n : Nat) : Bs := Lib.join (L.drop (L.length - n)) [46]
def ruleX (L l : List Bs) (n : Nat) : Bool := decide ((33 :: tailS L n) ∈ l)
def ruleM (L l : List Bs) (n : Nat) : Bool := decide (tailS L n ∈ l) || (decide (1 < n) && decide ((42 :: 46 :: tailS L (n - 1)) ∈ l))
def mostN (L l : List Bs) : Nat → Nat
  | 0 => 1
  | n + 1 => if ruleM L l (n + 1) = true then n + 1 else mostN L l n
def notN (L l : List Bs) : Nat → Int
  | 0 => -1
  | n + 1 => if ruleX L l (n + 1) = true then n else notN L l n
/-- How many labels the suffix has. -/
def sfx (L l : List Bs) : Nat := if 0 ≤ notN L l L.length then (notN L l L.length).toNat else mostN L l L.length
def domC (host : Bs) (l : List Bs) : Bs × Bool × Nat :=
  if isHostS host = false then ([], false, 10) else if sufC l ≠ 0 then ([], false, sufC l)
  else if (Lib.split host [46]).length < sfx (Lib.split host [46]) l + 1 then ([], false, 0) else (tailS (Lib.split host [46]) (sfx (Lib.split host [46]) l + 1), true, 0)
/-! Hosts and their ends. -/
end Go.Proofs.YtjbabjfmcganpaaGreatDoor
