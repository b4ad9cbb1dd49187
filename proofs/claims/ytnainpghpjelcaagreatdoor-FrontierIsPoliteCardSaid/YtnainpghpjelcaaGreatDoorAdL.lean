/-
  ADDRESS, IN PLAIN LEAN: normal forms of addresses stay.
-/
import Derived.Test.YtnainpghpjelcaaGreatDoorAdI
import Derived.Test.YtnainpghpjelcaaGreatDoorAdM
import Derived.Test.YtnainpghpjelcaaGreatDoorAdK
set_option linter.unusedSimpArgs false
set_option linter.unusedVariables false
namespace Go.Proofs.YtnainpghpjelcaaGreatDoor
open Go.Lw
set_option maxRecDepth 100000
set_option maxHeartbeats 1000000

theorem byte_all {p : UInt8 → Prop} (h : ∀ n : Fin 256, p (UInt8.ofNat n.val)) (c : UInt8) : p c := by
  have h2 := h ⟨c.toNat, c.toNat_lt⟩
  simpa using h2
/-- Rows of tokens: bytes that are no sign, and signs with two large digits. -/
inductive NR : Bs → Prop where
  | nil : NR []
  | char (c : UInt8) (r : Bs) (h : ¬ c = 37) (t : NR r) : NR (c :: r)
  | pct (c : UInt8) (r : Bs) (h : keepC c = false) (t : NR r) : NR (37 :: bigH (c.toNat / 16) :: bigH (c.toNat % 16) :: r)
theorem two_big (c : UInt8) : two (bigH (c.toNat / 16)) (bigH (c.toNat % 16)) = c := byte_all (p := fun c => two (bigH (c.toNat / 16)) (bigH (c.toNat % 16)) = c) (by decide) c
theorem keep_no37 (c : UInt8) : keepC c = true → ¬ c = 37 := byte_all (p := fun c => keepC c = true → ¬ c = 37) (by decide) c
theorem big_no47 (c : UInt8) : ¬ bigH (c.toNat / 16) = 47 ∧ ¬ bigH (c.toNat % 16) = 47 := byte_all (p := fun c => ¬ bigH (c.toNat / 16) = 47 ∧ ¬ bigH (c.toNat % 16) = 47) (by decide) c
theorem NR.fix {s : Bs} (h : NR s) : normR s = s := by
  induction h with
  | nil => rfl
  | char c r h t ih =>
    rw [normR.eq_def]
    simp only
    rw [if_neg h, ih]
  | pct c r h t ih =>
    rw [normR.eq_def]
    simp only [if_true]
    rw [two_big, ih]
    unfold normB
    rw [if_neg (by rw [h]; decide)]
    rfl
theorem NR.append {x y : Bs} (h : NR x) (hy : NR y) : NR (x ++ y) := by
  induction h with
  | nil => exact hy
  | char c r h t ih => exact .char c _ h ih
  | pct c r h t ih => exact .pct c _ h ih
theorem nr_byte (c : UInt8) : NR (normB c) := by
  unfold normB
  split
  · rename_i h; exact .char c [] (keep_no37 c h) .nil
  · rename_i h; exact .pct c [] (by simpa using h) .nil
theorem nr_norm : ∀ s : Bs, isRow [] s → NR (normR s)
  | [], _ => .nil
  | c :: r, hr => by
    by_cases h : c = 37
    · have h3 := row_three (s := c :: r) (j := 0) (by simp) (by simpa using hr) (by simpa using h)
      match r, hr, h3 with
      | h1 :: h2 :: r2, _, h3 =>
        rw [normR.eq_def]
        simp only
        rw [if_pos h]
        exact (nr_byte _).append (nr_norm r2 (by simpa using h3.2.2.2))
      | [_], _, h3 => simp at h3
      | [], _, h3 => simp at h3
    · rw [normR.eq_def]
      simp only
      rw [if_neg h]
      have h1 := row_one (s := c :: r) (j := 0) (by simp) (by simpa using hr) (by simpa using h)
      exact .char c _ h (nr_norm r (by simpa using h1))
theorem nr_part : ∀ {s x y : Bs}, NR s → s = x ++ 47 :: y → (47 : UInt8) ∉ x → NR x ∧ NR y := by
  intro s x y h
  induction h generalizing x with
  | nil => intro e _; cases x <;> cases e
  | char c r h t ih =>
    intro e hx
    cases x with
    | nil =>
      simp only [List.nil_append, List.cons.injEq] at e
      rw [e.2] at t
      exact ⟨.nil, t⟩
    | cons b x =>
      simp only [List.cons_append, List.cons.injEq] at e
      obtain ⟨h1, h2⟩ := ih e.2 (fun hm => hx (List.mem_cons_of_mem _ hm))
      rw [← e.1]
      exact ⟨.char c x h h1, h2⟩
  | pct c r h t ih =>
    intro e hx
    have hb := big_no47 c
    match x, e, hx with
    | [], e, _ => simp at e
    | [a], e, _ =>
      simp only [List.cons_append, List.nil_append, List.cons.injEq] at e
      exact absurd e.2.1 hb.1
    | [a, b], e, _ =>
      simp only [List.cons_append, List.nil_append, List.cons.injEq] at e
      exact absurd e.2.2.1 hb.2
    | a :: b :: d :: x, e, hx =>
      simp only [List.cons_append, List.cons.injEq] at e
      obtain ⟨e1, e2, e3, e4⟩ := e
      obtain ⟨h1, h2⟩ := ih e4 (fun hm => hx (by simp [hm]))
      rw [← e1, ← e2, ← e3]
      exact ⟨.pct c x h h1, h2⟩
theorem nr_split (s : Bs) (h : NR s) : ∀ x ∈ Lib.split s [47], NR x := by
  generalize hn : s.length = n
  induction n using Nat.strongRecOn generalizing s with
  | _ n ih =>
    rcases parted 47 s with h0 | ⟨x, y, rfl, h0⟩
    · rw [split_none 47 s h0]; simpa using h
    · obtain ⟨h1, h2⟩ := nr_part h rfl h0
      rw [split_app 47 x y h0]
      intro z hz
      cases hz with
      | head => exact h1
      | tail _ hz => exact ih y.length (by simp at hn; omega) y h2 rfl z hz
theorem nr_join : ∀ L : List Bs, (∀ x ∈ L, NR x) → NR (Lib.join L [47])
  | [], _ => .nil
  | [x], h => by rw [Lib.join_one]; exact h x (by simp)
  | x :: y :: L, h => by
    rw [join_two, List.append_assoc]
    exact (h x (by simp)).append (.char 47 _ (by decide) (nr_join (y :: L) (fun z hz => h z (List.mem_cons_of_mem _ hz))))
/-! Dots. -/
theorem udAt_all (P : List Bs) (q : Bs → Prop) (h0 : q []) (hP : ∀ j : Nat, ¬ P[j]?.getD [] = [46] → ¬ P[j]?.getD [] = [46, 46] → q (P[j]?.getD [])) : ∀ j, ∀ x ∈ udAt P j, q x
  | 0, x, h => by simp [udAt] at h
  | j + 1, x, h => by
    have ih := udAt_all P q h0 hP j
    simp only [udAt, udStep] at h
    split at h
    · split at h
      · rcases List.mem_append.1 h with h | h
        · exact ih x (List.mem_of_mem_take h)
        · rw [show x = [] by simpa using h]; exact h0
      · exact ih x (List.mem_of_mem_take h)
    · rename_i n1
      split at h
      · split at h
        · rcases List.mem_append.1 h with h | h
          · exact ih x h
          · rw [show x = [] by simpa using h]; exact h0
        · exact ih x h
      · rename_i n2
        rcases List.mem_append.1 h with h | h
        · exact ih x h
        · rw [show x = _ by simpa using h]; exact hP j n2 n1
theorem udAt_ne (P : List Bs) (h : 1 ≤ P.length) : udAt P P.length ≠ [] := by
  obtain ⟨n, hn⟩ : ∃ n, P.length = n + 1 := ⟨P.length - 1, by omega⟩
  rw [hn]
  simp only [udAt, udStep, hn, decide_true, if_true]
  repeat' split
  all_goals simp
theorem udAt_same (L : List Bs) (h : ∀ x ∈ L, ¬ x = [46] ∧ ¬ x = [46, 46]) : ∀ j, j ≤ L.length → udAt L j = L.take j
  | 0, _ => by simp [udAt]
  | j + 1, hj => by
    have hm := h _ (List.getElem_mem (show j < L.length by omega))
    have e : L[j]?.getD [] = L[j] := by rw [List.getElem?_eq_getElem (by omega)]; rfl
    simp only [udAt, udStep]
    rw [e, if_neg hm.2, if_neg hm.1, udAt_same L h j (by omega), List.take_add_one, List.getElem?_eq_getElem (by omega)]
    rfl
theorem undot_cases (s : Bs) : undotP s = [] ∧ s = [] ∨ ∃ L : List Bs, L ≠ [] ∧ undotP s = 47 :: Lib.join L [47] ∧ (∀ x ∈ L, (47 : UInt8) ∉ x ∧ ¬ x = [46] ∧ ¬ x = [46, 46]) ∧ ∀ q : Bs → Prop, q [] → (∀ x ∈ Lib.split (s.drop 1) [47], q x) → ∀ x ∈ L, q x := by
  by_cases h0 : s = []
  · left; exact ⟨by unfold undotP; rw [if_pos h0], h0⟩
  right
  have hmem : ∀ (P : List Bs) (q : Bs → Prop), q [] → (∀ x ∈ P, q x) → ∀ j : Nat, q (P[j]?.getD []) := by
    intro P q hq hP j
    rcases Nat.lt_or_ge j P.length with hj | hj
    · rw [List.getElem?_eq_getElem hj]; exact hP _ (List.getElem_mem hj)
    · rw [List.getElem?_eq_none hj]; exact hq
  have hfree := split_free 47 (s.drop 1)
  have hne := split_ne 47 (s.drop 1)
  refine ⟨udAt (Lib.split (s.drop 1) [47]) (Lib.split (s.drop 1) [47]).length, udAt_ne _ (List.length_pos_iff.2 hne), by unfold undotP; rw [if_neg h0], ?_, ?_⟩
  · refine udAt_all _ (fun x => (47 : UInt8) ∉ x ∧ ¬ x = [46] ∧ ¬ x = [46, 46]) (by decide) (fun j n1 n2 => ⟨?_, n1, n2⟩) _
    exact hmem _ (fun x => (47 : UInt8) ∉ x) (by simp) hfree j
  · intro q hq hP
    exact udAt_all _ q hq (fun j _ _ => hmem _ q hq hP j) _
theorem undot_twice (s : Bs) : undotP (undotP s) = undotP s := by
  rcases undot_cases s with ⟨h, _⟩ | ⟨L, hne, h, hL, _⟩
  · rw [h]; rfl
  · rw [h]
    have hsp : Lib.split ((47 :: Lib.join L [47]).drop 1) [47] = L := by
      simp only [List.drop_succ_cons, List.drop_zero]
      exact split_join 47 L hne (fun x hx => (hL x hx).1)
    unfold undotP
    rw [if_neg (by simp), hsp, udAt_same L (fun x hx => (hL x hx).2) L.length (Nat.le_refl _), List.take_length]
theorem nr_undot (s : Bs) (h : NR s) (h47 : s = [] ∨ s[0]? = some 47) : NR (undotP s) := by
  rcases undot_cases s with ⟨e, _⟩ | ⟨L, hne, e, _, hq⟩
  · rw [e]; exact .nil
  · rw [e]
    refine .char 47 _ (by decide) (nr_join L (hq NR .nil ?_))
    intro x hx
    refine nr_split (s.drop 1) ?_ x hx
    cases s with
    | nil => simpa using h
    | cons c r =>
      simp only [List.drop_succ_cons, List.drop_zero]
      have hc : c = 47 := by
        rcases h47 with h | h
        · cases h
        · simpa using h
      subst hc
      exact (nr_part h (x := []) rfl (by simp)).2
end Go.Proofs.YtnainpghpjelcaaGreatDoor
/-
  ADDRESS, IN PLAIN LEAN: the normal form of an address: it stays, and is not longer by more than one byte.
-/
set_option linter.unusedSimpArgs false
set_option linter.unusedVariables false
namespace Go.Proofs.YtnainpghpjelcaaGreatDoor
open Go.Lw
set_option maxRecDepth 100000
set_option maxHeartbeats 1000000

theorem small_twice (s : Bs) : small (small s) = small s := by
  have h : ∀ c, low (low c) = low c := byte_all (p := fun c => low (low c) = low c) (by decide)
  simp [small, h]
theorem normB_len (c : UInt8) : (normB c).length ≤ 3 := by unfold normB; split <;> simp
theorem normR_len : ∀ s : Bs, (normR s).length ≤ s.length
  | [] => by simp [normR]
  | c :: r => by
    rw [normR.eq_def]
    simp only
    split
    · match r with
      | [] => simp
      | [_] => simp
      | h :: k :: r2 =>
        have h1 := normR_len r2
        have h2 := normB_len (two h k)
        simp only [List.length_append, List.length_cons]
        omega
    · have := normR_len r
      simp only [List.length_cons]
      omega
/-! The length of a path without dots. -/
def wt (L : List Bs) : Nat := (L.map fun x => x.length + 1).sum
theorem wt_app (L M : List Bs) : wt (L ++ M) = wt L + wt M := by simp [wt]
theorem wt_take (L : List Bs) (k : Nat) : wt (L.take k) ≤ wt L := by
  have : wt L = wt (L.take k) + wt (L.drop k) := by rw [← wt_app, List.take_append_drop]
  omega
theorem join_wt : ∀ L : List Bs, L ≠ [] → (Lib.join L [47]).length + 1 = wt L
  | [], h => absurd rfl h
  | [x], _ => by rw [Lib.join_one]; simp [wt]
  | x :: y :: L, _ => by
    have := join_wt (y :: L) (by simp)
    rw [join_two]
    simp only [wt, List.map_cons, List.sum_cons, List.length_append, List.length_cons, List.length_nil] at this ⊢
    omega
theorem udAt_wt (P : List Bs) : ∀ j, j ≤ P.length → wt (udAt P j) ≤ wt (P.take j)
  | 0, _ => by simp [udAt, wt]
  | j + 1, hj => by
    have ih := udAt_wt P j (by omega)
    have e : P.take (j + 1) = P.take j ++ [P[j]?.getD []] := by
      rw [List.take_add_one, List.getElem?_eq_getElem (by omega)]; rfl
    rw [e, wt_app]
    have ht := wt_take (udAt P j) ((udAt P j).length - 1)
    have h1 : wt [([] : Bs)] = 1 := rfl
    have h2 : wt [P[j]?.getD []] = (P[j]?.getD []).length + 1 := by simp [wt]
    simp only [udAt, udStep]
    split
    · split
      · rw [wt_app]; omega
      · omega
    · split
      · split
        · rw [wt_app]; omega
        · omega
      · rw [wt_app]; omega
theorem undot_len (s : Bs) : (undotP s).length ≤ s.length := by
  unfold undotP
  split
  · simp
  · rename_i h0
    have hne := split_ne 47 (s.drop 1)
    have hj := join_split 47 (s.drop 1)
    generalize Lib.split (s.drop 1) [47] = P at hne hj
    have h1 := udAt_wt P P.length (Nat.le_refl _)
    rw [List.take_length] at h1
    have h2 := join_wt (udAt P P.length) (udAt_ne P (List.length_pos_iff.2 hne))
    have h3 := join_wt P hne
    rw [hj, List.length_drop] at h3
    have : 0 < s.length := List.length_pos_iff.2 h0
    simp only [List.length_cons]
    omega
/-! The normal form. -/
def portN (sc p : Bs) : Bs := if (sc = [104, 116, 116, 112] ∧ p = [56, 48]) ∨ (sc = [104, 116, 116, 112, 115] ∧ p = [52, 52, 51]) then [] else p
def pathN (p : Bs) : Bs := if undotP (normR p) = [] then [47] else undotP (normR p)
def normA (a : Adr) : Adr := ⟨small a.scheme, small a.host, portN (small a.scheme) (a.port.dropWhile fun c => decide (c = 48)), pathN a.path, normR a.query, a.hasQ, [], false⟩
theorem drop_twice (p : UInt8 → Bool) : ∀ l : Bs, (l.dropWhile p).dropWhile p = l.dropWhile p
  | [] => rfl
  | c :: l => by
    rw [List.dropWhile_cons]
    split
    · exact drop_twice p l
    · rename_i h
      rw [List.dropWhile_cons_of_neg h]
theorem port_twice (sc p : Bs) : portN sc ((portN sc (p.dropWhile fun c => decide (c = 48))).dropWhile fun c => decide (c = 48)) = portN sc (p.dropWhile fun c => decide (c = 48)) := by
  have h := drop_twice (fun c => decide (c = 48)) p
  generalize p.dropWhile (fun c => decide (c = 48)) = q at h
  by_cases hd : (sc = [104, 116, 116, 112] ∧ q = [56, 48]) ∨ (sc = [104, 116, 116, 112, 115] ∧ q = [52, 52, 51])
  · have e : portN sc q = [] := by unfold portN; rw [if_pos hd]
    rw [e]
    unfold portN
    rw [if_neg (by simp)]
    rfl
  · have e : portN sc q = q := by unfold portN; rw [if_neg hd]
    rw [e, h, e]
theorem path_twice {p : Bs} (hr : isRow [] p) (h47 : p = [] ∨ p[0]? = some 47) : pathN (pathN p) = pathN p := by
  have hn := nr_norm p hr
  have hn47 : normR p = [] ∨ (normR p)[0]? = some 47 := by
    cases p with
    | nil => left; rfl
    | cons c r =>
      right
      have hc : c = 47 := by
        rcases h47 with h | h
        · cases h
        · simpa using h
      subst hc
      rw [normR.eq_def]
      simp only
      rw [if_neg (by decide)]
      rfl
  have hu := nr_undot (normR p) hn hn47
  have ht := undot_twice (normR p)
  unfold pathN
  by_cases h0 : undotP (normR p) = []
  · rw [if_pos h0]
    have e : undotP (normR [47]) = [47] := by
      have : normR [47] = [47] := by decide
      rw [this]
      have : Lib.split (([47] : Bs).drop 1) [47] = [[]] := split_none 47 [] (by simp)
      unfold undotP
      rw [if_neg (by simp), this]
      decide
    rw [e]
    rfl
  · rw [if_neg h0, hu.fix, ht, if_neg h0]
theorem row63 {p : Bs} (h : isRow [63] p) : isRow [] p := by
  unfold isRow at h ⊢
  exact rowE_app (w := [63]) (w2 := []) (by intro c hc; simp at hc) (.inl rfl) p h |> fun e => by simpa using e
/-- The normal form of a normal form is the same. -/
theorem norm_twice {a : Adr} (h : ChkA a) : normA (normA a) = normA a := by
  have hq := (nr_norm a.query h.query).fix
  have hp := path_twice (row63 h.path) h.slash
  unfold normA
  simp only [small_twice, port_twice, hq, hp]
theorem path_len (p : Bs) : (pathN p).length ≤ p.length + 1 := by
  have h1 := normR_len p
  have h2 := undot_len (normR p)
  unfold pathN
  split
  · simp
  · omega
end Go.Proofs.YtnainpghpjelcaaGreatDoor
