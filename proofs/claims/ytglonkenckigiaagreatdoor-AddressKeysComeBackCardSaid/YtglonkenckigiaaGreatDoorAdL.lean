/-
  ADDRESS, IN PLAIN LEAN: the normal form of an address: it stays, and is not longer by more than one byte.
-/
import Derived.Test.YtglonkenckigiaaGreatDoorAdJ
import Derived.Test.YtglonkenckigiaaGreatDoorAdK
set_option linter.unusedSimpArgs false
set_option linter.unusedVariables false
namespace Go.Proofs.YtglonkenckigiaaGreatDoor
open Go.Lw
set_option maxRecDepth 100000
set_option maxHeartbeats 1000000

theorem small_twice (s : Bs) : small (small s) = small s := by
  have h : ∀ c, low (low c) = low c := byte_all (p := fun c => low (low c) = low c) (by decide)
  simp [small, h]
theorem normB_len (c : UInt8) : (normB c).length ≤ 3 := by unfold normB; split <;> simp
theorem normR_len : ∀ s : Bs, (normR s).length ≤ s.length
  | [] => by simp [normR]
  | c :: r => by
    rw [normR.eq_def]
    simp only
    split
    · match r with
      | [] => simp
      | [_] => simp
      | h :: k :: r2 =>
        have h1 := normR_len r2
        have h2 := normB_len (two h k)
        simp only [List.length_append, List.length_cons]
        omega
    · have := normR_len r
      simp only [List.length_cons]
      omega
/-! The length of a path without dots. -/
def wt (L : List Bs) : Nat := (L.map fun x => x.length + 1).sum
theorem wt_app (L M : List Bs) : wt (L ++ M) = wt L + wt M := by simp [wt]
theorem wt_take (L : List Bs) (k : Nat) : wt (L.take k) ≤ wt L := by
  have : wt L = wt (L.take k) + wt (L.drop k) := by rw [← wt_app, List.take_append_drop]
  omega
theorem join_wt : ∀ L : List Bs, L ≠ [] → (Lib.join L [47]).length + 1 = wt L
  | [], h => absurd rfl h
  | [x], _ => by rw [Lib.join_one]; simp [wt]
  | x :: y :: L, _ => by
    have := join_wt (y :: L) (by simp)
    rw [join_two]
    simp only [wt, List.map_cons, List.sum_cons, List.length_append, List.length_cons, List.length_nil] at this ⊢
    omega
theorem udAt_wt (P : List Bs) : ∀ j, j ≤ P.length → wt (udAt P j) ≤ wt (P.take j)
  | 0, _ => by simp [udAt, wt]
  | j + 1, hj => by
    have ih := udAt_wt P j (by omega)
    have e : P.take (j + 1) = P.take j ++ [P[j]?.getD []] := by
      rw [List.take_add_one, List.getElem?_eq_getElem (by omega)]; rfl
    rw [e, wt_app]
    have ht := wt_take (udAt P j) ((udAt P j).length - 1)
    have h1 : wt [([] : Bs)] = 1 := rfl
    have h2 : wt [P[j]?.getD []] = (P[j]?.getD []).length + 1 := by simp [wt]
    simp only [udAt, udStep]
    split
    · split
      · rw [wt_app]; omega
      · omega
    · split
      · split
        · rw [wt_app]; omega
        · omega
      · rw [wt_app]; omega
theorem undot_len (s : Bs) : (undotP s).length ≤ s.length := by
  unfold undotP
  split
  · simp
  · rename_i h0
    have hne := split_ne 47 (s.drop 1)
    have hj := join_split 47 (s.drop 1)
    generalize Lib.split (s.drop 1) [47] = P at hne hj
    have h1 := udAt_wt P P.length (Nat.le_refl _)
    rw [List.take_length] at h1
    have h2 := join_wt (udAt P P.length) (udAt_ne P (List.length_pos_iff.2 hne))
    have h3 := join_wt P hne
    rw [hj, List.length_drop] at h3
    have : 0 < s.length := List.length_pos_iff.2 h0
    simp only [List.length_cons]
    omega
theorem undot_ne {s : Bs} (h : s ≠ []) : undotP s ≠ [] := by
  unfold undotP
  rw [if_neg h]
  simp
/-! The normal form. -/
def portN (sc p : Bs) : Bs := if (sc = [104, 116, 116, 112] ∧ p = [56, 48]) ∨ (sc = [104, 116, 116, 112, 115] ∧ p = [52, 52, 51]) then [] else p
def pathN (p : Bs) : Bs := if undotP (normR p) = [] then [47] else undotP (normR p)
def normA (a : Adr) : Adr := ⟨small a.scheme, small a.host, portN (small a.scheme) (a.port.dropWhile fun c => decide (c = 48)), pathN a.path, normR a.query, a.hasQ, [], false⟩
theorem drop_twice (p : UInt8 → Bool) : ∀ l : Bs, (l.dropWhile p).dropWhile p = l.dropWhile p
  | [] => rfl
  | c :: l => by
    rw [List.dropWhile_cons]
    split
    · exact drop_twice p l
    · rename_i h
      rw [List.dropWhile_cons_of_neg h]
theorem port_twice (sc p : Bs) : portN sc ((portN sc (p.dropWhile fun c => decide (c = 48))).dropWhile fun c => decide (c = 48)) = portN sc (p.dropWhile fun c => decide (c = 48)) := by
  have h := drop_twice (fun c => decide (c = 48)) p
  generalize p.dropWhile (fun c => decide (c = 48)) = q at h
  by_cases hd : (sc = [104, 116, 116, 112] ∧ q = [56, 48]) ∨ (sc = [104, 116, 116, 112, 115] ∧ q = [52, 52, 51])
  · have e : portN sc q = [] := by unfold portN; rw [if_pos hd]
    rw [e]
    unfold portN
    rw [if_neg (by simp)]
    rfl
  · have e : portN sc q = q := by unfold portN; rw [if_neg hd]
    rw [e, h, e]
theorem path_twice {p : Bs} (hr : isRow [] p) (h47 : p = [] ∨ p[0]? = some 47) : pathN (pathN p) = pathN p := by
  have hn := nr_norm p hr
  have hn47 : normR p = [] ∨ (normR p)[0]? = some 47 := by
    cases p with
    | nil => left; rfl
    | cons c r =>
      right
      have hc : c = 47 := by
        rcases h47 with h | h
        · cases h
        · simpa using h
      subst hc
      rw [normR.eq_def]
      simp only
      rw [if_neg (by decide)]
      rfl
  have hu := nr_undot (normR p) hn hn47
  have ht := undot_twice (normR p)
  unfold pathN
  by_cases h0 : undotP (normR p) = []
  · rw [if_pos h0]
    have e : undotP (normR [47]) = [47] := by
      have : normR [47] = [47] := by decide
      rw [this]
      have : Lib.split (([47] : Bs).drop 1) [47] = [[]] := split_none 47 [] (by simp)
      unfold undotP
      rw [if_neg (by simp), this]
      decide
    rw [e]
    rfl
  · rw [if_neg h0, hu.fix, ht, if_neg h0]
theorem row63 {p : Bs} (h : isRow [63] p) : isRow [] p := by
  unfold isRow at h ⊢
  exact rowE_app (w := [63]) (w2 := []) (by intro c hc; simp at hc) (.inl rfl) p h |> fun e => by simpa using e
/-- The normal form of a normal form is the same. -/
theorem norm_twice {a : Adr} (h : ChkA a) : normA (normA a) = normA a := by
  have hq := (nr_norm a.query h.query).fix
  have hp := path_twice (row63 h.path) h.slash
  unfold normA
  simp only [small_twice, port_twice, hq, hp]
theorem path_ne (p : Bs) : pathN p ≠ [] := by
  unfold pathN
  split
  · simp
  · rename_i h; exact h
theorem path_len (p : Bs) : (pathN p).length ≤ p.length + 1 := by
  have h1 := normR_len p
  have h2 := undot_len (normR p)
  unfold pathN
  split
  · simp
  · omega
theorem norm_len (a : Adr) : (writeA (normA a)).length ≤ (writeA a).length + 1 := by
  have h1 := path_len a.path
  have h2 := normR_len a.query
  have h3 : (portN (small a.scheme) (a.port.dropWhile fun c => decide (c = 48))).length ≤ a.port.length := by
    have := (List.dropWhile_suffix (l := a.port) fun c => decide (c = 48)).length_le
    unfold portN
    split
    · simp
    · exact this
  have h4 : (pPart (normA a)).length ≤ (pPart a).length := by
    unfold pPart normA
    simp only
    by_cases e : a.port = []
    · rw [e] at h3 ⊢
      simp only [List.length_nil, Nat.le_zero_eq] at h3
      rw [List.length_eq_zero_iff.1 h3]
      simp
    · rw [if_neg e]
      split <;> simp <;> omega
  have h5 : (qPart (normA a)).length ≤ (qPart a).length := by
    unfold qPart normA
    simp only
    split
    · simp; exact h2
    · simp
  have h6 : (fPart (normA a)).length ≤ (fPart a).length := by
    unfold fPart normA
    simp
  have e1 : (normA a).scheme.length = a.scheme.length := by simp [normA, small]
  have e2 : (normA a).host.length = a.host.length := by simp [normA, small]
  have e3 : (normA a).path = pathN a.path := rfl
  simp only [writeA, behindA, List.length_append] at *
  rw [e1, e2, e3]
  omega
end Go.Proofs.YtglonkenckigiaaGreatDoor
