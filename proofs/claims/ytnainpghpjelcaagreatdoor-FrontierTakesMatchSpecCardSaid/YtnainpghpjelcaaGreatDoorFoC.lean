/-
  slices.Backward over scopes: the iterator's contract.
-/
import Derived.RangeFuncNested
import Derived.RangeFuncLeaves
import Derived.RangeFuncBox
import Derived.Shelf.Abstract
import Derived.WalkKit
import Derived.OwnWalkIn
import Derived.TacticsInMore
import Derived.LoopNIn
import Derived.LoopIn
import Derived.Test.YtnainpghpjelcaaGreatDoorLibS
import Derived.Test.YtnainpghpjelcaaGreatDoorKeyH
import Derived.Test.YtnainpghpjelcaaGreatDoorDel
import Derived.Test.YtnainpghpjelcaaGreatDoorFnD
set_option linter.unusedSimpArgs false
set_option linter.unusedVariables false
namespace Go.Proofs.YtnainpghpjelcaaGreatDoor
open Go.RowKit Go.Shelf Go.Lw
attribute [local go_sem] Oper.semAt_some
set_option maxRecDepth 100000
set_option maxHeartbeats 2000000

/-- A scope: its kind, its key, whether it is left out. -/
abbrev Scp := Int × Bs × Bool
abbrev scp0 : Scp := (0, [], false)
abbrev scpAt (L : List Scp) (j : Nat) : Scp := L[j]?.getD scp0
abbrev scpV (x : Scp) : Value := .agg #[.int .i64 x.1, .string (bs x.2.1), .bool x.2.2]
/-- A slice value that holds scopes, in a block below n₀. -/
def HasScp (n₀ : Nat) (W : World) (A : Option Addr) (cap b off : Nat) (L : List Scp) : Prop :=
  L.length ≤ cap ∧ cap ≤ maxLen ∧ (0 < L.length → A = some ⟨b, off, none⟩ ∧ b < n₀) ∧
    ∀ j, j < L.length → W.cell? ⟨b, off + j * 3, none⟩ = some (.int .i64 (scpAt L j).1) ∧ W.cell? ⟨b, off + j * 3 + 1, none⟩ = some (.string (bs (scpAt L j).2.1)) ∧ W.cell? ⟨b, off + j * 3 + 2, none⟩ = some (.bool (scpAt L j).2.2)
theorem HasScp.below {n₀ : Nat} {W W' : World} {A : Option Addr} {cap b off : Nat} {L : List Scp} (h : HasScp n₀ W A cap b off L) (hb : Below n₀ W W') : HasScp n₀ W' A cap b off L := by
  obtain ⟨h1, h2, h3, h4⟩ := h
  refine ⟨h1, h2, h3, fun j hj => ?_⟩
  have hlt := (h3 (by omega)).2
  obtain ⟨k1, k2, k3⟩ := h4 j hj
  exact ⟨(hb.cell (p := ⟨b, off + j * 3, none⟩) hlt).trans k1, (hb.cell (p := ⟨b, off + j * 3 + 1, none⟩) hlt).trans k2, (hb.cell (p := ⟨b, off + j * 3 + 2, none⟩) hlt).trans k3⟩
/-- What has come when k rounds are over: from the last one on. -/
def upB (L : List Scp) (k : Nat) : List (Nat × Scp) := (List.range k).map fun j => (L.length - 1 - j, scpAt L (L.length - 1 - j))
end Go.Proofs.YtnainpghpjelcaaGreatDoor
/-
  ADDRESS: scopes: CheckScopes, covers, Covers (both sides), InScope (reference). (WITH run_drawN.)
-/
set_option linter.unusedSimpArgs false
set_option linter.unusedVariables false
namespace Go.Proofs.YtnainpghpjelcaaGreatDoor
open Go.Lw Go.RowKit
set_option maxRecDepth 100000
set_option maxHeartbeats 2000000

abbrev scpCells (x : Scp) : List D := [int x.1, str x.2.1, tru x.2.2]
abbrev scpD (x : Scp) : D := .agg [int x.1, str x.2.1, tru x.2.2]
abbrev scpSl (L : List Scp) : D := .sl L.length fun i => [int (scpAt L i).1, str (scpAt L i).2.1, tru (scpAt L i).2.2]
/-- The fault of one scope. -/
def scpE (x : Scp) : Nat := if x.1 < 1 ∨ 4 < x.1 then 4 else (ofK x.2.1).2
def scpGo (L : List Scp) (j : Nat) : Nat := if j < L.length then (if scpE (scpAt L j) ≠ 0 then scpE (scpAt L j) else scpGo L (j + 1)) else 0
termination_by L.length - j
/-- The fault of scopes. -/
def scpC (L : List Scp) : Nat := if 200 < L.length then 2 else scpGo L 0
/-- Does a scope cover a key? -/
def covP (x : Scp) (k : Bs) : Bool :=
  if x.1 = 1 then decide (k = x.2.1) else if x.1 = 2 then x.2.1.isPrefixOf k else if x.1 = 3 then decide (hostK k = hostK x.2.1)
  else decide (hostK k = hostK x.2.1) || (hostK x.2.1 ++ [44]).isPrefixOf (hostK k)
end Go.Proofs.YtnainpghpjelcaaGreatDoor
/-
  ADDRESS: InScope (program): a range over slices.Backward.
-/
set_option linter.unusedSimpArgs false
set_option linter.unusedVariables false
namespace Go.Proofs.YtnainpghpjelcaaGreatDoor
open Go.RowKit Go.Shelf Go.Lw
attribute [local go_sem] Oper.semAt_some
set_option maxRecDepth 100000
set_option maxHeartbeats 4000000

/-- A block of cells lies on. -/
abbrev Lies3 (W : World) (B : Nat) (t : TypeId) (x : Scp) : Prop := W.heap[B]? = some (.cells #[.int .i64 x.1, .string (bs x.2.1), .bool x.2.2] t (0, 0))
/-- Is a key in scopes: the last scope that covers it says. -/
def inAt (L : List Scp) (k : Bs) : Nat → Bool
  | 0 => false
  | i + 1 => if covP (scpAt L i) k = true then !(scpAt L i).2.2 else inAt L k i
/-- The fault of scopes and a key. -/
def chkK (L : List Scp) (k : Bs) : Nat := if scpC L ≠ 0 then scpC L else (ofK k).2
def inC (L : List Scp) (k : Bs) : Bool × Nat := if chkK L k ≠ 0 then (false, chkK L k) else (inAt L k L.length, 0)
end Go.Proofs.YtnainpghpjelcaaGreatDoor
/-
  FRONTIER: Add, the plain law: items put in one behind the other stand as they stand the other way round.
-/
set_option linter.unusedSimpArgs false
set_option linter.unusedVariables false
namespace Go.Proofs.YtnainpghpjelcaaGreatDoor
open Go.Lw Go.RowKit
set_option maxRecDepth 100000
set_option maxHeartbeats 2000000

theorem bl_asymm {a b : Bs} (h : Op.bytesLess a b = true) : Op.bytesLess b a = false := by
  cases h2 : Op.bytesLess b a with
  | false => rfl
  | true => have := bl_trans h h2; rw [bl_irrefl] at this; cases this
theorem bl_ne {a b : Bs} (h : Op.bytesLess a b = true) : a ≠ b := fun e => by rw [e, bl_irrefl] at h; cases h
/-- An item put in. -/
def putW : List Wnt → Wnt → List Wnt
  | [], w => [w]
  | x :: r, w => if x.1 = w.1 then joinW x w :: r else if Op.bytesLess x.1 w.1 = true then x :: putW r w else w :: x :: r
theorem min_assoc3 (a b c : Int) : min (min a b) c = min (min a c) b := by omega
theorem join_comm3 (x a b : Wnt) : joinW (joinW x a) b = joinW (joinW x b) a := by
  simp only [joinW]
  rw [min_assoc3 x.2.1, min_assoc3 x.2.2]
theorem join_comm {a b : Wnt} (h : a.1 = b.1) : joinW a b = joinW b a := by
  simp only [joinW]
  rw [h, Int.min_comm, Int.min_comm a.2.2]
@[simp] theorem joinW_fst (a b : Wnt) : (joinW a b).1 = a.1 := rfl
theorem put_two {a b : Wnt} (r : List Wnt) (h : Op.bytesLess a.1 b.1 = true) : putW (b :: r) a = a :: b :: r := by
  rw [putW, if_neg (fun e => bl_ne h e.symm), if_neg (by rw [bl_asymm h]; decide)]
theorem put_less {x w : Wnt} (r : List Wnt) (h : Op.bytesLess x.1 w.1 = true) : putW (x :: r) w = x :: putW r w := by
  rw [putW, if_neg (bl_ne h), if_pos h]
theorem put_same {x w : Wnt} (r : List Wnt) (h : x.1 = w.1) : putW (x :: r) w = joinW x w :: r := by
  rw [putW, if_pos h]
theorem three (a b : Bs) : Op.bytesLess a b = true ∨ a = b ∨ Op.bytesLess b a = true := by
  cases h : Op.bytesLess a b with
  | true => exact .inl rfl
  | false =>
    by_cases e : a = b
    · exact .inr (.inl e)
    · exact .inr (.inr (bl_total h e))
theorem put_comm : ∀ (I : List Wnt) (a b : Wnt), putW (putW I a) b = putW (putW I b) a
  | [], a, b => by
    simp only [putW]
    rcases three a.1 b.1 with h | h | h
    · rw [if_neg (bl_ne h), if_pos h, if_neg (fun e => bl_ne h e.symm), if_neg (by rw [bl_asymm h]; decide)]
    · rw [if_pos h, if_pos h.symm, join_comm h]
    · rw [if_neg (fun e => bl_ne h e.symm), if_neg (by rw [bl_asymm h]; decide), if_neg (bl_ne h), if_pos h]
  | x :: r, a, b => by
    rcases three x.1 a.1 with ha | ha | ha <;> rcases three x.1 b.1 with hb | hb | hb
    · rw [put_less r ha, put_less r hb, put_less _ hb, put_less _ ha, put_comm r a b]
    · rw [put_less r ha, put_same r hb, put_same _ hb, put_less r (by simpa using ha)]
    · rw [put_less r ha, put_two r hb, put_two _ hb, put_less _ (bl_trans hb ha), put_less r ha]
    · rw [put_same r ha, put_less r hb, put_less r (by simpa using hb), put_same _ ha]
    · rw [put_same r ha, put_same r hb, put_same r (by simpa using hb), put_same r (by simpa using ha), join_comm3]
    · rw [put_same r ha, put_two r hb, put_two r (by simpa using hb), put_less _ (by rw [← ha]; exact hb), put_same r ha]
    · rw [put_two r ha, put_less r hb, put_less _ (bl_trans ha hb), put_less r hb, put_two _ ha]
    · rw [put_two r ha, put_same r hb, put_less _ (by rw [← hb]; exact ha), put_same r hb, put_two r (by simpa using ha)]
    · rw [put_two r ha, put_two r hb]
      rcases three a.1 b.1 with h | h | h
      · rw [put_less _ h, put_two r hb, put_two _ h]
      · rw [put_same _ h, put_same _ h.symm, join_comm h]
      · rw [put_two _ h, put_less _ h, put_two r ha]
/-- Items that stand in order. -/
def srtW (I : List Wnt) : Prop := I.Pairwise fun a b => Op.bytesLess a.1 b.1 = true
theorem srt_of {I : List Wnt} (h : ascB (keyAt I) I.length) : srtW I := by
  refine List.pairwise_iff_getElem.2 fun i j hi hj hij => ?_
  have := h i j hij hj
  simpa [keyAt, wntAt, hi, hj] using this
theorem asc_of {I : List Wnt} (h : srtW I) : ascB (keyAt I) I.length := by
  intro i j hij hj
  have := List.pairwise_iff_getElem.1 h i j (by omega) hj hij
  have hi : i < I.length := by omega
  simpa [keyAt, wntAt, hi, hj] using this
def hasK (I : List Wnt) (k : Bs) : Prop := ∃ x ∈ I, x.1 = k
/-! What is right has no fault. -/
theorem mem_wnt {L : List Wnt} {p : Wnt → Prop} : (∀ j, j < L.length → p (wntAt L j)) ↔ ∀ x ∈ L, p x := by
  constructor
  · intro h x hx
    obtain ⟨j, hj⟩ := List.mem_iff_getElem?.1 hx
    have := h j (List.getElem?_eq_some_iff.1 hj).1
    simpa [wntAt, hj] using this
  · intro h j hj
    simp only [wntAt, List.getElem?_eq_getElem hj, Option.getD_some]
    exact h _ (List.getElem_mem hj)
end Go.Proofs.YtnainpghpjelcaaGreatDoor
/-
  FRONTIER: Drop (program). (WITH run_drawN.)
-/
set_option linter.unusedSimpArgs false
set_option linter.unusedVariables false
namespace Go.Proofs.YtnainpghpjelcaaGreatDoor
open Go.Lw Go.RowKit
set_option maxRecDepth 100000
set_option maxHeartbeats 4000000

/-- What stays. -/
def dropI (f : Frt) (L : List Scp) : List Wnt := f.items.filter fun x => (inC L x.1).1
def dropD (f : Frt) (L : List Scp) : D := if frE f ≠ 0 then .tup [frNo, int (frE f)] else if scpC L ≠ 0 then .tup [frNo, int (scpC L)] else .tup [frD { f with items := dropI f L }, int 0]
theorem del_cells (K : List Wnt) (n : Nat) : (fun i => (K.map wntCells ++ List.replicate n noWnt)[i]?.getD noWnt) = fun i => [str (wntAt K i).1, int (wntAt K i).2.1, int (wntAt K i).2.2] := by
  funext i
  rw [List.getElem?_append]
  split
  · rw [List.getElem?_map, row_w]
  · rename_i h
    simp only [List.length_map] at h
    have h1 : K[i]? = none := List.getElem?_eq_none (by omega)
    simp only [wntAt, h1, List.length_map, List.getElem?_replicate]
    split <;> rfl
end Go.Proofs.YtnainpghpjelcaaGreatDoor
