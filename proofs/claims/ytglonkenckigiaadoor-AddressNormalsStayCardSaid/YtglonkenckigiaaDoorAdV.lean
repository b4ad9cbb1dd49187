/-
  DOMAINS: CheckSuffixes, suffix, Domain. (WITH run_drawN.)
-/
import Derived.Test.YtglonkenckigiaaDoorAdA
import Derived.Test.YtglonkenckigiaaDoorAdU
import Derived.Test.YtglonkenckigiaaDoorLwTail
set_option linter.unusedSimpArgs false
set_option linter.unusedVariables false
namespace Go.Proofs.YtglonkenckigiaaDoor
open Go.Lw Go.RowKit
set_option maxRecDepth 100000
set_option maxHeartbeats 1000000

theorem lHasPrefix_ok (s p : Bs) : FnOk Tryd.prog 50 [str s, str p] (tru (p.isPrefixOf s)) :=
  fnOk_lits [.string (bs s), .string (bs p)] (by kernel_rfl) fun w _ => Tryd.stringslite_HasPrefix (bs s) (bs p) w
def cutP (s p : Bs) : Bs := if p <+: s then s.drop p.length else s
theorem sufL_len (x : Bs) (n : Nat) (h : x.length ≤ n) : (sufL x).length ≤ n := by
  unfold sufL
  split
  · simp; omega
  · split
    · simp; omega
    · exact h
theorem sufFrom_step (l : List Bs) (j : Nat) (h : j < l.length) : sufFrom l j = if isHostS (sufL (l[j]?.getD [])) = false then 3 else if 0 < j ∧ leS (l[j]?.getD []) (l[j - 1]?.getD []) = true then 8 else sufFrom l (j + 1) := by
  rw [sufFrom, if_pos h]
theorem sufFrom_end (l : List Bs) (j : Nat) (h : l.length ≤ j) : sufFrom l j = 0 := by
  rw [sufFrom, if_neg (by omega)]
/-! The suffix. -/
theorem below_drewN (w : World) : ∀ n, Below w.heap.size w (w.drewN n)
  | 0 => by rw [World.drewN_zero]; exact Below.refl _ _
  | n + 1 => by rw [← World.drew_drewN]; exact Below.drew (below_drewN w n)
theorem tail_zero (L : List Bs) : tailS L 0 = [] := by unfold tailS; rw [List.drop_of_length_le (by omega)]; rfl
theorem tail_len (L : List Bs) (n : Nat) : (tailS L n).length ≤ (Lib.join L [46]).length := by
  unfold tailS
  rcases Nat.lt_or_ge (L.length - n) L.length with h | h
  · rcases join_end 46 L (L.length - n) h with e | ⟨p, hp⟩
    · rw [e, List.drop_zero]; omega
    · rw [hp]; simp; omega
  · rw [List.drop_of_length_le h]; simp [Lib.join_nil]
theorem cut_tail (L : List Bs) (hf : ∀ x ∈ L, (46 : UInt8) ∉ x) (k : Nat) (hk : k + 1 ≤ L.length) : Lib.cut (tailS L (k + 1)) [46] = (L[L.length - (k + 1)]?.getD [], tailS L k, decide (0 < k)) := by
  unfold tailS
  rw [List.drop_eq_getElem_cons (show L.length - (k + 1) < L.length by omega), show L.length - (k + 1) + 1 = L.length - k by omega, List.getElem?_eq_getElem (show L.length - (k + 1) < L.length by omega), Option.getD_some]
  have hx := hf _ (List.getElem_mem (show L.length - (k + 1) < L.length by omega))
  generalize L[L.length - (k + 1)] = x at hx
  rcases Nat.eq_zero_or_pos k with rfl | h0
  · rw [List.drop_of_length_le (by omega), Lib.join_one, cut_one 46 x hx]
    rfl
  · rw [join_step x _ _ (by intro e; have := congrArg List.length e; simp at this; omega), List.append_assoc, List.singleton_append, cut_app 46 x _ hx, decide_eq_true h0]
theorem sl_drop (L : List Bs) (x : Int) (m : Nat) (hx : x.toNat = m) : (D.sl (L.length - x.toNat) fun i => [str (L[x.toNat + i]?.getD [])]) = strSl (L.drop m) := by
  subst hx
  simp
theorem tail_ok (L : List Bs) (n : Nat) (x : Int) (hx : x.toNat = L.length - n) (hL : L.length ≤ 1000) (hj : (Lib.join L [46]).length ≤ 1000) : FnOk Tryd.prog 34 [D.sl (L.length - x.toNat) fun i => [str (L[x.toNat + i]?.getD [])], str [46]] (str (tailS L n)) := by
  rw [sl_drop L x (L.length - n) hx]
  exact join_ok (L.drop (L.length - n)) [46] (by simp; omega) (by have := tail_len L n; unfold tailS at this; omega)
end Go.Proofs.YtglonkenckigiaaDoor
