/-
  ADDRESS, IN PLAIN LEAN: keys without rules, and what they lead to.
-/
import Derived.Test.YtpmfmjgnhdfakaaGreatDoorNm
import Derived.Test.YtpmfmjgnhdfakaaGreatDoorAdW
import Derived.Test.YtpmfmjgnhdfakaaGreatDoorR1D
set_option linter.unusedSimpArgs false
set_option linter.unusedVariables false
namespace Go.Proofs.YtpmfmjgnhdfakaaGreatDoor
open Go.Lw
set_option maxRecDepth 100000
set_option maxHeartbeats 1000000

theorem rowK_nobad : ∀ u : Bs, rowE [] u = (u.length, true) → ∀ c ∈ u, badB c = false
  | [], _, c, hc => by cases hc
  | b :: r, h, c, hc => by
    rw [rowE.eq_def] at h
    simp only at h
    rw [if_neg (show ¬ ([] : Bs).contains b = true by simp)] at h
    by_cases h2 : badB b = true
    · rw [if_pos h2] at h; simp at h
    rw [if_neg h2] at h
    have hb : badB b = false := by simpa using h2
    by_cases h3 : b = 37
    · rw [if_pos h3] at h
      match r, h, hc with
      | [], h, hc => simp at h
      | [_], h, hc => simp at h
      | x :: y :: r2, h, hc =>
        simp only at h
        by_cases h4 : isHexB x = true ∧ isHexB y = true
        · rw [if_pos h4] at h
          have h5 : rowE [] r2 = (r2.length, true) := by
            have e1 := congrArg Prod.fst h
            have e2 := congrArg Prod.snd h
            simp only [List.length_cons] at e1 e2
            exact Prod.ext (by simp only; omega) e2
          rcases List.mem_cons.1 hc with rfl | hc
          · exact hb
          rcases List.mem_cons.1 hc with rfl | hc
          · exact (hex_row h4.1).1
          rcases List.mem_cons.1 hc with rfl | hc
          · exact (hex_row h4.2).1
          · exact rowK_nobad r2 h5 c hc
        · rw [if_neg h4] at h; simp at h
    · rw [if_neg h3] at h
      have h5 : rowE [] r = (r.length, true) := by
        have e1 := congrArg Prod.fst h
        have e2 := congrArg Prod.snd h
        simp only [List.length_cons] at e1 e2
        exact Prod.ext (by simp only; omega) e2
      rcases List.mem_cons.1 hc with rfl | hc
      · exact hb
      · exact rowK_nobad r h5 c hc
theorem rowK_free {w : Bs} (hw : ∀ c, w.contains c = true → isHexB c = false) {s : Bs} (h : isRow w s) : (∀ c ∈ s, badB c = false) ∧ (∀ c ∈ s, w.contains c = false) := by
  unfold isRow at h
  have h1 := rowE_until hw s
  rw [h] at h1
  have hle := rowE_le [] (s.takeWhile (nw w))
  rw [← h1] at hle
  have hpre := List.takeWhile_prefix (l := s) (nw w)
  have hu : s.takeWhile (nw w) = s := hpre.eq_of_length_le hle
  rw [hu] at h1
  refine ⟨rowK_nobad s h1.symm, fun c hc => ?_⟩
  rw [← hu] at hc
  have := List.all_eq_true.1 (List.all_takeWhile (l := s) (p := nw w)) c hc
  unfold nw at this
  simpa using this
theorem writeK_parts (a : Adr) : (writeA a).length = a.scheme.length + 3 + a.host.length + (pPart a).length + (a.path.length + (qPart a).length + (fPart a).length) := by simp [writeA, behindA]; omega
theorem split_sub (c : UInt8) (s : Bs) : ∀ x ∈ Lib.split s [c], ∀ b ∈ x, b ∈ s := by
  generalize hn : s.length = n
  induction n using Nat.strongRecOn generalizing s with
  | _ n ih =>
    rcases parted c s with h | ⟨x, y, rfl, h⟩
    · rw [split_none c s h]
      intro x hx b hb
      rw [show x = s by simpa using hx] at hb
      exact hb
    · rw [split_app c x y h]
      intro z hz b hb
      simp at hn
      cases hz with
      | head => simp [hb]
      | tail _ hz => have := ih y.length (by omega) y rfl z hz b hb; simp [this]
theorem join_mem (c : UInt8) : ∀ (L : List Bs) (b : UInt8), b ∈ Lib.join L [c] → b = c ∨ ∃ x ∈ L, b ∈ x
  | [], b, h => by simp [Lib.join_nil] at h
  | [x], b, h => by rw [Lib.join_one] at h; exact .inr ⟨x, by simp, h⟩
  | x :: y :: L, b, h => by
    rw [join_two] at h
    rcases List.mem_append.1 h with h | h
    · rcases List.mem_append.1 h with h | h
      · exact .inr ⟨x, by simp, h⟩
      · exact .inl (by simpa using h)
    · rcases join_mem c (y :: L) b h with h | ⟨z, hz, hb⟩
      · exact .inl h
      · exact .inr ⟨z, List.mem_cons_of_mem _ hz, hb⟩
theorem join_wtc (c : UInt8) : ∀ L : List Bs, L ≠ [] → (Lib.join L [c]).length + 1 = wt L
  | [], h => absurd rfl h
  | [x], _ => by rw [Lib.join_one]; simp [wt]
  | x :: y :: L, _ => by
    have := join_wtc c (y :: L) (by simp)
    rw [join_two]
    simp only [wt, List.map_cons, List.sum_cons, List.length_append, List.length_cons, List.length_nil] at this ⊢
    omega
/-- Labels in the contrary order. -/
def turnP (s : Bs) (f t : UInt8) : Bs := Lib.join (Lib.split s [f]).reverse [t]
theorem turn_back (s : Bs) (f t : UInt8) (h : t ∉ s) : turnP (turnP s f t) t f = s := by
  unfold turnP
  rw [split_join t (Lib.split s [f]).reverse (by simpa using split_ne f s) (fun x hx hm => h (split_sub f s x (List.mem_reverse.1 hx) t hm)), List.reverse_reverse, join_split]
theorem turn_free (s : Bs) (f t b : UInt8) (h : b ∉ s) (hb : b ≠ t) : b ∉ turnP s f t := by
  intro hm
  rcases join_mem t _ b hm with e | ⟨x, hx, hm⟩
  · exact hb e
  · exact h (split_sub f s x (List.mem_reverse.1 hx) b hm)
theorem wt_reverse (L : List Bs) : wt L.reverse = wt L := by
  induction L with
  | nil => rfl
  | cons x L ih => rw [List.reverse_cons, wt_app, ih]; simp [wt]; omega
theorem turn_len (s : Bs) (f t : UInt8) : (turnP s f t).length = s.length := by
  have h1 := join_wtc t (Lib.split s [f]).reverse (by simpa using split_ne f s)
  have h2 := join_wtc f (Lib.split s [f]) (split_ne f s)
  rw [join_split] at h2
  rw [wt_reverse] at h1
  unfold turnP
  omega
/-! What a key is made of. -/
abbrev httpB : Bs := [104, 116, 116, 112]
abbrev httpsB : Bs := [104, 116, 116, 112, 115]
def keyN (n : Adr) : Bs := turnP n.host 46 44 ++ pPart n ++ [41] ++ (if n.scheme = httpsB then [115] else []) ++ n.path ++ qPart n
def keyC (a : Adr) : Bs := keyN (normA a)
structure GoodN (n : Adr) : Prop where
  sch : n.scheme = httpB ∨ n.scheme = httpsB
  h41 : (41 : UInt8) ∉ n.host
  h44 : (44 : UInt8) ∉ n.host
  h58 : (58 : UInt8) ∉ n.host
  p41 : (41 : UInt8) ∉ n.port
  path : ∃ r, n.path = 47 :: r
  p63 : (63 : UInt8) ∉ n.path
  q : n.hasQ = false → n.query = []
  f : n.frag = [] ∧ n.hasF = false
/-- What a key is taken apart into. -/
def decK (s : Bs) : Adr × Bool :=
  (⟨if [115] <+: (Lib.cut s [41]).2.1 then httpsB else httpB, turnP (Lib.cut (Lib.cut s [41]).1 [58]).1 44 46, (Lib.cut (Lib.cut s [41]).1 [58]).2.1,
    (Lib.cut (cutP (Lib.cut s [41]).2.1 [115]) [63]).1, (Lib.cut (cutP (Lib.cut s [41]).2.1 [115]) [63]).2.1, (Lib.cut (cutP (Lib.cut s [41]).2.1 [115]) [63]).2.2, [], false⟩, (Lib.cut (Lib.cut s [41]).1 [58]).2.2)
theorem dec_key {n : Adr} (g : GoodN n) : decK (keyN n) = (n, decide (n.port ≠ [])) := by
  obtain ⟨sc, ho, po, pa, qu, hq, fr, hf⟩ := n
  obtain ⟨hs, h41, h44, h58, p41, ⟨r, hr⟩, p63, q, f1, f2⟩ := g
  simp only at *
  subst f1 f2
  have e0 : keyN ⟨sc, ho, po, pa, qu, hq, [], false⟩ = (turnP ho 46 44 ++ pPart ⟨sc, ho, po, pa, qu, hq, [], false⟩) ++ 41 :: ((if sc = httpsB then [115] else []) ++ pa ++ qPart ⟨sc, ho, po, pa, qu, hq, [], false⟩) := by
    simp [keyN]
  have n41 : (41 : UInt8) ∉ turnP ho 46 44 ++ pPart ⟨sc, ho, po, pa, qu, hq, [], false⟩ := by
    intro hm
    rcases List.mem_append.1 hm with hm | hm
    · exact turn_free ho 46 44 41 h41 (by decide) hm
    · unfold pPart at hm
      split at hm
      · cases hm
      · rcases List.mem_cons.1 hm with e | hm
        · cases e
        · exact p41 hm
  have c1 := cut_app 41 _ ((if sc = httpsB then [115] else []) ++ pa ++ qPart ⟨sc, ho, po, pa, qu, hq, [], false⟩) n41
  rw [← e0] at c1
  have n58 : (58 : UInt8) ∉ turnP ho 46 44 := turn_free ho 46 44 58 h58 (by decide)
  have c2 : Lib.cut (turnP ho 46 44 ++ pPart ⟨sc, ho, po, pa, qu, hq, [], false⟩) [58] = (turnP ho 46 44, po, decide (po ≠ [])) := by
    unfold pPart
    by_cases e : po = []
    · simp only
      rw [if_pos e, List.append_nil, cut_one 58 _ n58, e]
      rfl
    · simp only
      rw [if_neg e, cut_app 58 _ _ n58]
      simp [e]
  have c3 : ∀ t : Bs, Lib.cut (pa ++ qPart ⟨sc, ho, po, pa, qu, hq, [], false⟩) [63] = (pa, qu, hq) := by
    intro _
    unfold qPart
    cases hq with
    | true => simp only [if_true]; exact cut_app 63 _ _ p63
    | false => simp only; rw [if_neg (by decide), List.append_nil, cut_one 63 _ p63, q rfl]
  have hpre : [115] <+: ((if sc = httpsB then [115] else []) ++ pa ++ qPart ⟨sc, ho, po, pa, qu, hq, [], false⟩) ↔ sc = httpsB := by
    rcases hs with rfl | rfl
    · rw [if_neg (by decide), hr]
      constructor
      · intro h
        obtain ⟨t, ht⟩ := h
        simp at ht
      · intro h; exact absurd h (by decide)
    · rw [if_pos rfl]; simp
  have hcut : cutP ((if sc = httpsB then [115] else []) ++ pa ++ qPart ⟨sc, ho, po, pa, qu, hq, [], false⟩) [115] = pa ++ qPart ⟨sc, ho, po, pa, qu, hq, [], false⟩ := by
    unfold cutP
    by_cases e : sc = httpsB
    · rw [if_pos (hpre.2 e), if_pos e]; simp
    · rw [if_neg (fun h => e (hpre.1 h)), if_neg e]; simp
  unfold decK
  rw [c1]
  simp only
  rw [c2, hcut, c3 []]
  simp only
  rw [turn_back ho 46 44 h44]
  rcases hs with rfl | rfl
  · rw [if_neg (fun h => absurd (hpre.1 h) (by decide))]
  · rw [if_pos (hpre.2 rfl)]
theorem host_no {s : Bs} (h : isHostB s = true) (c : UInt8) (hc : hostB c = false) : c ∉ s := by
  intro hm
  have := List.all_eq_true.1 (host_bytes h) c hm
  rw [hc] at this
  cases this
theorem small_no {s : Bs} {c : UInt8} (h : c ∉ s) (hc : ¬ (97 ≤ c.toNat ∧ c.toNat ≤ 122)) : c ∉ small s := by
  intro hm
  obtain ⟨b, hb, e⟩ := List.mem_map.1 hm
  rw [low_sign e hc] at hb
  exact h hb
theorem norm_no63 : ∀ s : Bs, (63 : UInt8) ∉ s → (63 : UInt8) ∉ normR s
  | [], _ => by simp [normR]
  | c :: r, h => by
    have hb : ∀ c, (63 : UInt8) ∉ normB c := byte_all (p := fun c => (63 : UInt8) ∉ normB c) (by decide)
    have hr : (63 : UInt8) ∉ r := fun hm => h (List.mem_cons_of_mem _ hm)
    have hc : (63 : UInt8) ≠ c := fun e => h (by rw [e]; simp)
    rw [normR.eq_def]
    simp only
    split
    · match r, hr with
      | [], _ => simpa using hc
      | [_], hr => simp at hr; simp [hr]; exact hc
      | x :: y :: r2, hr =>
        have := norm_no63 r2 (fun hm => hr (by simp [hm]))
        simp only
        intro hm
        rcases List.mem_append.1 hm with hm | hm
        · exact hb _ hm
        · exact this hm
    · intro hm
      rcases List.mem_cons.1 hm with e | hm
      · exact hc e
      · exact norm_no63 r hr hm
theorem undot_no63 {s : Bs} (h : (63 : UInt8) ∉ s) : (63 : UInt8) ∉ undotP s := by
  rcases undot_cases s with ⟨e, _⟩ | ⟨L, _, e, _, hq⟩
  · rw [e]; simp
  · rw [e]
    intro hm
    have hL := hq (fun x => (63 : UInt8) ∉ x) (by simp) (fun x hx hm => h (List.mem_of_mem_drop (split_sub 47 (s.drop 1) x hx 63 hm)))
    rcases List.mem_cons.1 hm with e | hm
    · cases e
    · rcases join_mem 47 L 63 hm with e | ⟨x, hx, hm⟩
      · cases e
      · exact hL x hx hm
theorem path_47 (p : Bs) : ∃ r, pathN p = 47 :: r := by
  unfold pathN
  split
  · exact ⟨[], rfl⟩
  · rename_i h
    unfold undotP at h ⊢
    split
    · rename_i e; rw [if_pos e] at h; exact absurd rfl h
    · exact ⟨_, rfl⟩
theorem good_norm {a : Adr} (h : ChkA a) : GoodN (normA a) := by
  have hw : ∀ c, ([63] : Bs).contains c = true → isHexB c = false := by
    intro c hc
    have : c = 63 := by simpa using hc
    rw [this]; decide
  have hp := (rowK_free hw h.path).2
  have hp63 : (63 : UInt8) ∉ a.path := fun hm => by have := hp 63 hm; simp at this
  have hport : ∀ c : UInt8, isDig c = false → c ∉ a.port := by
    intro c hc hm
    rcases h.port with e | e
    · rw [e] at hm; cases hm
    · have := List.all_eq_true.1 (port_digits e).2 c hm
      rw [hc] at this; cases this
  refine ⟨h.sch, small_no (host_no h.host 41 (by decide)) (by decide), small_no (host_no h.host 44 (by decide)) (by decide), small_no (host_no h.host 58 (by decide)) (by decide), ?_, path_47 _, ?_, ?_, rfl, rfl⟩
  · simp only [normA, portN]
    split
    · simp
    · intro hm; exact hport 41 (by decide) ((List.dropWhile_suffix _).mem hm)
  · simp only [normA, pathN]
    split
    · decide
    · exact undot_no63 (norm_no63 _ hp63)
  · simp only [normA]
    intro hq
    have : a.query = [] := Classical.byContradiction fun e => by rw [h.hasQ e] at hq; cases hq
    rw [this]; rfl
/-- What a key leads to. -/
def ofK (s : Bs) : Adr × Nat := if 2000 < s.length then (Adr.zero, 2) else if ((decK s).2 = true ∧ (decK s).1.port = []) ∨ chkC (decK s).1 ≠ 0 ∨ keyC (decK s).1 ≠ s then (Adr.zero, 10) else ((decK s).1, 0)
theorem ofK_cases (s : Bs) : ((ofK s).2 ≠ 0 ∧ (ofK s).1 = Adr.zero) ∨ ((ofK s).2 = 0 ∧ s.length ≤ 2000 ∧ chkC (ofK s).1 = 0 ∧ normA (ofK s).1 = (ofK s).1 ∧ keyN (ofK s).1 = s) := by
  unfold ofK
  by_cases h1 : 2000 < s.length
  · rw [if_pos h1]; exact .inl ⟨by decide, rfl⟩
  rw [if_neg h1]
  by_cases h2 : ((decK s).2 = true ∧ (decK s).1.port = []) ∨ chkC (decK s).1 ≠ 0 ∨ keyC (decK s).1 ≠ s
  · rw [if_pos h2]; exact .inl ⟨by decide, rfl⟩
  rw [if_neg h2]
  simp only [not_or, Classical.not_not] at h2
  have hg := good_norm ((chk_iff _).1 h2.2.1).1
  have hd := dec_key hg
  have hk : keyN (normA (decK s).1) = s := h2.2.2
  rw [hk] at hd
  have e : normA (decK s).1 = (decK s).1 := (congrArg Prod.fst hd).symm
  exact .inr ⟨rfl, by omega, h2.2.1, e, by rw [e] at hk; exact hk⟩
/-- The key of an address without rules; or the error. -/
def key0C (a : Adr) : Bs × Nat := if chkC a ≠ 0 then ([], chkC a) else if chkC (normA a) ≠ 0 then ([], chkC (normA a)) else (keyC a, 0)
end Go.Proofs.YtpmfmjgnhdfakaaGreatDoor
