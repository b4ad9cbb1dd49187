/-
  ADDRESS, IN PLAIN LEAN: normal forms of addresses stay.
-/
import Derived.Test.YtpmfmjgnhdfakaaGreatDoorAdI
import Derived.Test.YtpmfmjgnhdfakaaGreatDoorAdM
import Derived.Test.YtpmfmjgnhdfakaaGreatDoorAdK
set_option linter.unusedSimpArgs false
set_option linter.unusedVariables false
namespace Go.Proofs.YtpmfmjgnhdfakaaGreatDoor
open Go.Lw
set_option maxRecDepth 100000
set_option maxHeartbeats 1000000

theorem byte_all {p : UInt8 → Prop} (h : ∀ n : Fin 256, p (UInt8.ofNat n.val)) (c : UInt8) : p c := by
  have h2 := h ⟨c.toNat, c.toNat_lt⟩
  simpa using h2
/-- Rows of tokens: bytes that are no sign, and signs with two large digits. -/
inductive NR : Bs → Prop where
  | nil : NR []
  | char (c : UInt8) (r : Bs) (h : ¬ c = 37) (t : NR r) : NR (c :: r)
  | pct (c : UInt8) (r : Bs) (h : keepC c = false) (t : NR r) : NR (37 :: bigH (c.toNat / 16) :: bigH (c.toNat % 16) :: r)
theorem NR.append {x y : Bs} (h : NR x) (hy : NR y) : NR (x ++ y) := by
  induction h with
  | nil => exact hy
  | char c r h t ih => exact .char c _ h ih
  | pct c r h t ih => exact .pct c _ h ih
/-! Dots. -/
theorem udAt_all (P : List Bs) (q : Bs → Prop) (h0 : q []) (hP : ∀ j : Nat, ¬ P[j]?.getD [] = [46] → ¬ P[j]?.getD [] = [46, 46] → q (P[j]?.getD [])) : ∀ j, ∀ x ∈ udAt P j, q x
  | 0, x, h => by simp [udAt] at h
  | j + 1, x, h => by
    have ih := udAt_all P q h0 hP j
    simp only [udAt, udStep] at h
    split at h
    · split at h
      · rcases List.mem_append.1 h with h | h
        · exact ih x (List.mem_of_mem_take h)
        · rw [show x = [] by simpa using h]; exact h0
      · exact ih x (List.mem_of_mem_take h)
    · rename_i n1
      split at h
      · split at h
        · rcases List.mem_append.1 h with h | h
          · exact ih x h
          · rw [show x = [] by simpa using h]; exact h0
        · exact ih x h
      · rename_i n2
        rcases List.mem_append.1 h with h | h
        · exact ih x h
        · rw [show x = _ by simpa using h]; exact hP j n2 n1
theorem udAt_ne (P : List Bs) (h : 1 ≤ P.length) : udAt P P.length ≠ [] := by
  obtain ⟨n, hn⟩ : ∃ n, P.length = n + 1 := ⟨P.length - 1, by omega⟩
  rw [hn]
  simp only [udAt, udStep, hn, decide_true, if_true]
  repeat' split
  all_goals simp
theorem undot_cases (s : Bs) : undotP s = [] ∧ s = [] ∨ ∃ L : List Bs, L ≠ [] ∧ undotP s = 47 :: Lib.join L [47] ∧ (∀ x ∈ L, (47 : UInt8) ∉ x ∧ ¬ x = [46] ∧ ¬ x = [46, 46]) ∧ ∀ q : Bs → Prop, q [] → (∀ x ∈ Lib.split (s.drop 1) [47], q x) → ∀ x ∈ L, q x := by
  by_cases h0 : s = []
  · left; exact ⟨by unfold undotP; rw [if_pos h0], h0⟩
  right
  have hmem : ∀ (P : List Bs) (q : Bs → Prop), q [] → (∀ x ∈ P, q x) → ∀ j : Nat, q (P[j]?.getD []) := by
    intro P q hq hP j
    rcases Nat.lt_or_ge j P.length with hj | hj
    · rw [List.getElem?_eq_getElem hj]; exact hP _ (List.getElem_mem hj)
    · rw [List.getElem?_eq_none hj]; exact hq
  have hfree := split_free 47 (s.drop 1)
  have hne := split_ne 47 (s.drop 1)
  refine ⟨udAt (Lib.split (s.drop 1) [47]) (Lib.split (s.drop 1) [47]).length, udAt_ne _ (List.length_pos_iff.2 hne), by unfold undotP; rw [if_neg h0], ?_, ?_⟩
  · refine udAt_all _ (fun x => (47 : UInt8) ∉ x ∧ ¬ x = [46] ∧ ¬ x = [46, 46]) (by decide) (fun j n1 n2 => ⟨?_, n1, n2⟩) _
    exact hmem _ (fun x => (47 : UInt8) ∉ x) (by simp) hfree j
  · intro q hq hP
    exact udAt_all _ q hq (fun j _ _ => hmem _ q hq hP j) _
end Go.Proofs.YtpmfmjgnhdfakaaGreatDoor
/-
  ADDRESS, IN PLAIN LEAN: the normal form of an address: it stays, and is not longer by more than one byte.
-/
set_option linter.unusedSimpArgs false
set_option linter.unusedVariables false
namespace Go.Proofs.YtpmfmjgnhdfakaaGreatDoor
open Go.Lw
set_option maxRecDepth 100000
set_option maxHeartbeats 1000000

theorem normB_len (c : UInt8) : (normB c).length ≤ 3 := by unfold normB; split <;> simp
theorem normR_len : ∀ s : Bs, (normR s).length ≤ s.length
  | [] => by simp [normR]
  | c :: r => by
    rw [normR.eq_def]
    simp only
    split
    · match r with
      | [] => simp
      | [_] => simp
      | h :: k :: r2 =>
        have h1 := normR_len r2
        have h2 := normB_len (two h k)
        simp only [List.length_append, List.length_cons]
        omega
    · have := normR_len r
      simp only [List.length_cons]
      omega
/-! The length of a path without dots. -/
def wt (L : List Bs) : Nat := (L.map fun x => x.length + 1).sum
theorem wt_app (L M : List Bs) : wt (L ++ M) = wt L + wt M := by simp [wt]
theorem wt_take (L : List Bs) (k : Nat) : wt (L.take k) ≤ wt L := by
  have : wt L = wt (L.take k) + wt (L.drop k) := by rw [← wt_app, List.take_append_drop]
  omega
theorem join_wt : ∀ L : List Bs, L ≠ [] → (Lib.join L [47]).length + 1 = wt L
  | [], h => absurd rfl h
  | [x], _ => by rw [Lib.join_one]; simp [wt]
  | x :: y :: L, _ => by
    have := join_wt (y :: L) (by simp)
    rw [join_two]
    simp only [wt, List.map_cons, List.sum_cons, List.length_append, List.length_cons, List.length_nil] at this ⊢
    omega
theorem udAt_wt (P : List Bs) : ∀ j, j ≤ P.length → wt (udAt P j) ≤ wt (P.take j)
  | 0, _ => by simp [udAt, wt]
  | j + 1, hj => by
    have ih := udAt_wt P j (by omega)
    have e : P.take (j + 1) = P.take j ++ [P[j]?.getD []] := by
      rw [List.take_add_one, List.getElem?_eq_getElem (by omega)]; rfl
    rw [e, wt_app]
    have ht := wt_take (udAt P j) ((udAt P j).length - 1)
    have h1 : wt [([] : Bs)] = 1 := rfl
    have h2 : wt [P[j]?.getD []] = (P[j]?.getD []).length + 1 := by simp [wt]
    simp only [udAt, udStep]
    split
    · split
      · rw [wt_app]; omega
      · omega
    · split
      · split
        · rw [wt_app]; omega
        · omega
      · rw [wt_app]; omega
theorem undot_len (s : Bs) : (undotP s).length ≤ s.length := by
  unfold undotP
  split
  · simp
  · rename_i h0
    have hne := split_ne 47 (s.drop 1)
    have hj := join_split 47 (s.drop 1)
    generalize Lib.split (s.drop 1) [47] = P at hne hj
    have h1 := udAt_wt P P.length (Nat.le_refl _)
    rw [List.take_length] at h1
    have h2 := join_wt (udAt P P.length) (udAt_ne P (List.length_pos_iff.2 hne))
    have h3 := join_wt P hne
    rw [hj, List.length_drop] at h3
    have : 0 < s.length := List.length_pos_iff.2 h0
    simp only [List.length_cons]
    omega
/-! The normal form. -/
def portN (sc p : Bs) : Bs := if (sc = [104, 116, 116, 112] ∧ p = [56, 48]) ∨ (sc = [104, 116, 116, 112, 115] ∧ p = [52, 52, 51]) then [] else p
def pathN (p : Bs) : Bs := if undotP (normR p) = [] then [47] else undotP (normR p)
def normA (a : Adr) : Adr := ⟨small a.scheme, small a.host, portN (small a.scheme) (a.port.dropWhile fun c => decide (c = 48)), pathN a.path, normR a.query, a.hasQ, [], false⟩
theorem row63 {p : Bs} (h : isRow [63] p) : isRow [] p := by
  unfold isRow at h ⊢
  exact rowE_app (w := [63]) (w2 := []) (by intro c hc; simp at hc) (.inl rfl) p h |> fun e => by simpa using e
theorem path_len (p : Bs) : (pathN p).length ≤ p.length + 1 := by
  have h1 := normR_len p
  have h2 := undot_len (normR p)
  unfold pathN
  split
  · simp
  · omega
end Go.Proofs.YtpmfmjgnhdfakaaGreatDoor
