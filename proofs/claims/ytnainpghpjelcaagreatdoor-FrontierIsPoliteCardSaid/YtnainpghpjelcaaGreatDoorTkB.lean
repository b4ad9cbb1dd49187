/-
  FRONTIER: Take, Done: what they compute; what holds of it (plain law).
-/
import Derived.Test.YtnainpghpjelcaaGreatDoorFoC
set_option linter.unusedSimpArgs false
set_option linter.unusedVariables false
namespace Go.Proofs.YtnainpghpjelcaaGreatDoor
open Go.Lw Go.RowKit
set_option maxRecDepth 100000
set_option maxHeartbeats 2000000

abbrev hThere (f : Frt) (s : Bs) : Bool := thereB (nameAt f.hosts) f.hosts.length s
abbrev hLb (f : Frt) (s : Bs) : Nat := lbB (nameAt f.hosts) f.hosts.length s
/-- The number of what is fetched. -/
def takeN (f : Frt) (t : Int) : Int := nextGo f.items (rdyP f t) 0 (-1)
def tkW (f : Frt) (t : Int) : Wnt := wntAt f.items (takeN f t).toNat
def tkS (f : Frt) (t : Int) : Bs := hostK (tkW f t).1
/-- The starts of a host behind a new one. -/
def stL (l : List Int) (lo t : Int) : List Int := l.filter (fun x => decide (lo < x)) ++ [t]
def late8 (l : List Int) (t : Int) : Bool := decide (0 < l.length) && decide (t < l[l.length - 1]?.getD 0)
def takeE (f : Frt) (t : Int) : Nat :=
  if atE f t ≠ 0 then atE f t else if takeN f t < 0 then 9 else
  if hThere f (tkS f t) = true then (if late8 (hstAt f.hosts (hLb f (tkS f t))).2.2.2 t = true then 8 else 0) else if 300 ≤ f.hosts.length then 16 else 0
def takeH (f : Frt) (t : Int) (s : Bs) : List Hst :=
  if hThere f s = true then f.hosts.set (hLb f s) ((hstAt f.hosts (hLb f s)).1, (hstAt f.hosts (hLb f s)).2.1, true, stL (hstAt f.hosts (hLb f s)).2.2.2 (t - f.window) t)
  else f.hosts.take (hLb f s) ++ (s, 0, true, [t]) :: f.hosts.drop (hLb f s)
def takeF (f : Frt) (t : Int) : Frt := { f with items := f.items.eraseIdx (takeN f t).toNat, hosts := takeH f t (tkS f t) }
def takeD (f : Frt) (t : Int) : D := if takeE f t ≠ 0 then .tup [frNo, wntD wnt0, int (takeE f t)] else .tup [frD (takeF f t), wntD (tkW f t), int 0]
def doneE (f : Frt) (s : Bs) (t k d : Int) : Nat :=
  if frE f ≠ 0 then frE f else if hThere f s = false then 9 else if (hstAt f.hosts (hLb f s)).2.2.1 = false then 11 else if decide (okM t) = false ∨ decide (0 ≤ k ∧ k ≤ 1000000) = false ∨ decide (0 ≤ d ∧ d ≤ 1000000) = false then 1 else 0
def doneF (f : Frt) (s : Bs) (t k d : Int) : Frt := { f with hosts := f.hosts.set (hLb f s) ((hstAt f.hosts (hLb f s)).1, t + max d (4 * k), false, (hstAt f.hosts (hLb f s)).2.2.2) }
def doneD (f : Frt) (s : Bs) (t k d : Int) : D := if doneE f s t k d ≠ 0 then .tup [frNo, int (doneE f s t k d)] else .tup [frD (doneF f s t k d), int 0]
/-! The item that is fetched. -/
theorem nextGo_spec (L : List Wnt) (r : Wnt → Bool) (j : Nat) (b : Int) (hb : -1 ≤ b) (hb2 : b < j) (h0 : 0 ≤ b → b.toNat < L.length ∧ r (wntAt L b.toNat) = true) :
    nextGo L r j b = -1 ∨ (0 ≤ nextGo L r j b ∧ (nextGo L r j b).toNat < L.length ∧ r (wntAt L (nextGo L r j b).toNat) = true) := by
  rw [nextGo]
  split
  · rename_i hj
    refine nextGo_spec L r (j + 1) _ ?_ ?_ ?_
    · split <;> omega
    · split <;> omega
    · split
      · rename_i hc
        intro _
        refine ⟨by simpa using hj, ?_⟩
        simpa using hc.1
      · exact h0
  · rcases Int.lt_or_le b 0 with h | h
    · exact .inl (by omega)
    · exact .inr ⟨h, h0 h⟩
termination_by L.length - j
theorem takeN_spec (f : Frt) (t : Int) : takeN f t = -1 ∨ (0 ≤ takeN f t ∧ (takeN f t).toNat < f.items.length ∧ rdyP f t (wntAt f.items (takeN f t).toNat) = true) :=
  nextGo_spec f.items (rdyP f t) 0 (-1) (by omega) (by omega) (by omega)
/-! Hosts that stand in order. -/
theorem there_at {H : List Hst} (h : ascB (nameAt H) H.length) {j : Nat} (hj : j < H.length) : lbB (nameAt H) H.length (nameAt H j) = j ∧ thereB (nameAt H) H.length (nameAt H j) = true := by
  have e : lbB (nameAt H) H.length (nameAt H j) = j := lbB_of (by omega) (fun i hi => h i j hi hj) (fun _ => bl_irrefl _)
  refine ⟨e, ?_⟩
  unfold thereB
  rw [e]
  simp [hj]
theorem there_is {f : Frt} {s : Bs} (h : hThere f s = true) : hLb f s < f.hosts.length ∧ nameAt f.hosts (hLb f s) = s := by
  simp only [hThere, thereB, Bool.and_eq_true, decide_eq_true_eq] at h
  exact h
theorem set_at (H : List Hst) (k : Nat) (x : Hst) (j : Nat) : hstAt (H.set k x) j = if k = j ∧ k < H.length then x else hstAt H j := by
  simp only [hstAt, List.getElem?_set]
  by_cases h : k = j
  · subst h
    by_cases hk : k < H.length
    · simp [hk]
    · simp [hk, List.getElem?_eq_none (show H.length ≤ k by omega)]
  · simp [h]
theorem set_name {H : List Hst} {k : Nat} {x : Hst} (hx : x.1 = (hstAt H k).1) (j : Nat) : nameAt (H.set k x) j = nameAt H j := by
  simp only [nameAt, set_at]
  split
  · rename_i h; rw [← h.1]; exact hx
  · rfl
theorem set_asc {H : List Hst} {k : Nat} {x : Hst} (hx : x.1 = (hstAt H k).1) (h : ascB (nameAt H) H.length) : ascB (nameAt (H.set k x)) (H.set k x).length := by
  intro i j hij hj
  rw [set_name hx, set_name hx]
  exact h i j hij (by simpa using hj)
theorem ins_at (H : List Hst) (k : Nat) (hk : k ≤ H.length) (x : Hst) (j : Nat) : hstAt (H.take k ++ x :: H.drop k) j = if j < k then hstAt H j else if j = k then x else hstAt H (j - 1) := by
  simp only [hstAt]
  rw [List.getElem?_append]
  have hl : (H.take k).length = k := by simp; omega
  rw [hl]
  by_cases h1 : j < k
  · rw [if_pos h1, if_pos h1, List.getElem?_take, if_pos h1]
  · rw [if_neg h1, if_neg h1]
    by_cases h2 : j = k
    · subst h2; simp
    · rw [if_neg h2, show j - k = (j - k - 1) + 1 by omega, List.getElem?_cons_succ, List.getElem?_drop, show k + (j - k - 1) = j - 1 by omega]
theorem ins_asc {f : Frt} {s : Bs} (h : ascB (nameAt f.hosts) f.hosts.length) (hn : hThere f s = false) (x : Hst) (hx : x.1 = s) : ascB (nameAt (f.hosts.take (hLb f s) ++ x :: f.hosts.drop (hLb f s))) (f.hosts.length + 1) := by
  obtain ⟨p1, p2, p3⟩ := lbB_spec (nameAt f.hosts) f.hosts.length s
  have hne : hLb f s < f.hosts.length → Op.bytesLess s (nameAt f.hosts (hLb f s)) = true := fun hl => by
    refine bl_total (p3 hl) fun e => ?_
    simp only [hThere, thereB] at hn
    rw [show nameAt f.hosts (lbB (nameAt f.hosts) f.hosts.length s) = s from e] at hn
    simp only [decide_true, Bool.and_true, decide_eq_false_iff_not] at hn
    exact hn hl
  change hLb f s ≤ _ at p1
  change ∀ j, j < hLb f s → _ at p2
  clear p3
  generalize hLb f s = k at p1 p2 hne ⊢
  intro i j hij hj
  simp only [nameAt] at h p2 hne ⊢
  rw [ins_at _ _ p1, ins_at _ _ p1]
  by_cases a1 : i < k
  · rw [if_pos a1]
    by_cases b1 : j < k
    · rw [if_pos b1]; exact h i j hij (by omega)
    · rw [if_neg b1]
      by_cases b2 : j = k
      · rw [if_pos b2, hx]; exact p2 i a1
      · rw [if_neg b2]
        exact h i (j - 1) (by omega) (by omega)
  · rw [if_neg a1, if_neg (show ¬ j < k by omega), if_neg (show ¬ j = k by omega)]
    by_cases a2 : i = k
    · rw [if_pos a2, hx]
      have hl : k < f.hosts.length := by omega
      have h1 := hne hl
      rcases Nat.lt_or_ge (k) (j - 1) with h2 | h2
      · exact bl_trans h1 (h _ _ h2 (by omega))
      · have e : j - 1 = k := by omega
        rw [e]; exact h1
    · rw [if_neg a2]
      exact h (i - 1) (j - 1) (by omega) (by omega)
/-! Starts. -/
abbrev SrtI (l : List Int) : Prop := l.Pairwise (· ≤ ·)
theorem srtI_of {l : List Int} (h : ∀ k, k < l.length → (0 < k → l[k - 1]?.getD 0 ≤ l[k]?.getD 0)) : SrtI l := by
  rw [SrtI, List.pairwise_iff_getElem]
  intro i j hi hj hij
  induction j with
  | zero => omega
  | succ j ih =>
    have h1 := h (j + 1) hj (by omega)
    simp only [Nat.add_sub_cancel, List.getElem?_eq_getElem hj, List.getElem?_eq_getElem (show j < l.length by omega), Option.getD_some] at h1
    rcases Nat.lt_or_ge i j with h2 | h2
    · exact Int.le_trans (ih (by omega) h2) h1
    · obtain rfl : i = j := by omega
      exact h1
theorem srtI_to {l : List Int} (h : SrtI l) : ∀ k, k < l.length → (0 < k → l[k - 1]?.getD 0 ≤ l[k]?.getD 0) := by
  intro k hk h0
  have := List.pairwise_iff_getElem.1 h (k - 1) k (by omega) hk (by omega)
  simpa [hk, show k - 1 < l.length by omega] using this
theorem stL_good {l : List Int} {lo t : Int} (h : ∀ k, k < l.length → okM (l[k]?.getD 0) ∧ (0 < k → l[k - 1]?.getD 0 ≤ l[k]?.getD 0)) (ht : okM t) (hl : late8 l t = false) :
    ∀ k, k < (stL l lo t).length → okM ((stL l lo t)[k]?.getD 0) ∧ (0 < k → (stL l lo t)[k - 1]?.getD 0 ≤ (stL l lo t)[k]?.getD 0) := by
  have hs := srtI_of fun k hk => (h k hk).2
  have hlast : ∀ x ∈ l, x ≤ t := fun x hx => by
    obtain ⟨j, hj⟩ := List.mem_iff_getElem?.1 hx
    have hjl := (List.getElem?_eq_some_iff.1 hj).1
    have hn : ¬ t < l[l.length - 1]?.getD 0 := fun e => by
      unfold late8 at hl
      rw [decide_eq_true (show 0 < l.length by omega), decide_eq_true e] at hl
      cases hl
    have h2 : x ≤ l[l.length - 1]?.getD 0 := by
      have ex : x = l[j]?.getD 0 := by rw [hj]; rfl
      rcases Nat.lt_or_ge j (l.length - 1) with h3 | h3
      · have := List.pairwise_iff_getElem.1 hs j (l.length - 1) hjl (by omega) h3
        rw [ex]
        simpa [hjl, show l.length - 1 < l.length by omega] using this
      · rw [ex, show j = l.length - 1 by omega]
        exact Int.le_refl _
    omega
  have hs2 : SrtI (stL l lo t) := by
    unfold stL
    refine List.pairwise_append.2 ⟨List.Pairwise.sublist List.filter_sublist hs, by simp, fun a ha b hb => ?_⟩
    obtain rfl : b = t := by simpa using hb
    exact hlast a (List.mem_filter.1 ha).1
  intro k hk
  refine ⟨?_, srtI_to hs2 k hk⟩
  have hm : (stL l lo t)[k]?.getD 0 ∈ stL l lo t := by
    rw [List.getElem?_eq_getElem hk]; exact List.getElem_mem hk
  unfold stL at hm
  rcases List.mem_append.1 hm with h1 | h1
  · have h2 := (List.mem_filter.1 h1).1
    obtain ⟨j, hj⟩ := List.mem_iff_getElem?.1 h2
    have := (h j (List.getElem?_eq_some_iff.1 hj).1).1
    rw [hj] at this
    exact this
  · simp only [List.mem_singleton] at h1
    show okM ((l.filter (fun x => decide (lo < x)) ++ [t])[k]?.getD 0)
    rw [h1]; exact ht
/-- Fewer than a host's budget of starts are within the window, where it is open. -/
theorem filter_few {l : List Int} {lo : Int} {b : Nat} (hs : SrtI l) (hb : 1 ≤ b) (h : b ≤ l.length → l[l.length - b]?.getD 0 ≤ lo) : (l.filter fun x => decide (lo < x)).length < b := by
  rcases Nat.lt_or_ge l.length b with h1 | h1
  · exact Nat.lt_of_le_of_lt (List.length_filter_le _ _) h1
  · have h2 := h h1
    have e : l = l.take (l.length - b + 1) ++ l.drop (l.length - b + 1) := (List.take_append_drop _ _).symm
    have hz : (l.take (l.length - b + 1)).filter (fun x => decide (lo < x)) = [] := by
      refine List.filter_eq_nil_iff.2 fun x hx => ?_
      simp only [decide_eq_true_eq, Int.not_lt]
      obtain ⟨j, hj⟩ := List.mem_iff_getElem?.1 hx
      rw [List.getElem?_take] at hj
      split at hj
      · rename_i hjl
        have hjl2 := (List.getElem?_eq_some_iff.1 hj).1
        have h3 : x ≤ l[l.length - b]?.getD 0 := by
          have ex : x = l[j]?.getD 0 := by rw [hj]; rfl
          rcases Nat.lt_or_ge j (l.length - b) with h4 | h4
          · have := List.pairwise_iff_getElem.1 hs j (l.length - b) hjl2 (by omega) h4
            rw [ex]
            simpa [hjl2, show l.length - b < l.length by omega] using this
          · rw [ex, show j = l.length - b by omega]
            exact Int.le_refl _
        omega
      · cases hj
    have h4 : (l.filter fun x => decide (lo < x)) = (l.drop (l.length - b + 1)).filter (fun x => decide (lo < x)) := by
      conv => lhs; rw [e]
      rw [List.filter_append, hz, List.nil_append]
    rw [h4]
    refine Nat.lt_of_le_of_lt (List.length_filter_le _ _) ?_
    simp only [List.length_drop]
    omega
/-! The host of a right key is a host. -/
theorem hostK_keyN {n : Adr} (g : GoodN n) : hostK (keyN n) = turnP n.host 46 44 ++ pPart n := by
  have hd := dec_key g
  have e0 : keyN n = (turnP n.host 46 44 ++ pPart n) ++ 41 :: ((if n.scheme = httpsB then [115] else []) ++ n.path ++ qPart n) := by
    unfold keyN; simp
  unfold hostK
  rw [e0, cut_app 41 _ _ ?_]
  intro hm
  rcases List.mem_append.1 hm with hm | hm
  · exact turn_free n.host 46 44 41 g.h41 (by decide) hm
  · unfold pPart at hm
    split at hm
    · cases hm
    · rcases List.mem_cons.1 hm with e | hm
      · cases e
      · exact g.p41 hm
theorem host_isHo {k : Bs} (h : (ofK k).2 = 0) : isHo (hostK k) = true := by
  rcases ofK_cases k with h1 | ⟨_, hl, hc, hn, hk⟩
  · exact absurd h h1.1
  obtain ⟨hA, hw⟩ := (chk_iff _).1 hc
  generalize (ofK k).1 = a at hc hn hk hA hw
  have hg := good_norm hA
  rw [hn] at hg
  obtain ⟨sc, ho, po, pa, qu, hq, fr, hf⟩ := a
  have hfr := hg.f
  simp only at hfr
  obtain ⟨rfl, rfl⟩ := hfr
  have hsl : (pathN [47]) = [47] := by decide
  have hnN : normA ⟨sc, ho, po, [47], [], false, [], false⟩ = ⟨sc, ho, po, [47], [], false, [], false⟩ := by
    simp only [normA, Adr.mk.injEq] at hn ⊢
    refine ⟨hn.1, hn.2.1, hn.2.2.1, hsl, by decide, by first | rfl | trivial, by first | rfl | trivial, by first | rfl | trivial⟩
  have hA2 : ChkA ⟨sc, ho, po, [47], [], false, [], false⟩ := ⟨hA.sch, hA.host, hA.port, (.inr rfl), (by show rowE [63] [47] = (1, true); first | decide | simp [rowE]), (by show rowE [] [] = (0, true); first | decide | simp [rowE]), (by show rowE [] [] = (0, true); first | decide | simp [rowE]), fun e => absurd rfl e, fun e => absurd rfl e⟩
  obtain ⟨r, hr⟩ := hg.path
  simp only at hr
  have hw2 : (writeA ⟨sc, ho, po, [47], [], false, [], false⟩).length ≤ 2000 := by
    have h2 : (writeA ⟨sc, ho, po, [47], [], false, [], false⟩).length ≤ (writeA ⟨sc, ho, po, pa, qu, hq, [], false⟩).length := by
      rw [hr]
      simp only [writeA, behindA, qPart, fPart, pPart, List.length_append, List.length_cons, List.length_nil]
      simp
      omega
    omega
  have hc2 : chkC ⟨sc, ho, po, [47], [], false, [], false⟩ = 0 := (chk_iff _).2 ⟨hA2, hw2⟩
  have hof := ofK_key hc2 (by rw [hnN]; exact hc2)
  have hgk := good_norm hA2
  rw [hnN] at hgk
  have hH : hostK k = turnP ho 46 44 ++ pPart ⟨sc, ho, po, [47], [], false, [], false⟩ := by
    rw [← hk, hostK_keyN hg]
    rfl
  have hkey : keyC ⟨sc, ho, po, [47], [], false, [], false⟩ = hostK k ++ [41] ++ (if sc = httpsB then [115] else []) ++ [47] := by
    unfold keyC
    rw [hnN, hH]
    unfold keyN
    simp [qPart]
  have hhk : hostK (keyC ⟨sc, ho, po, [47], [], false, [], false⟩) = hostK k := by
    unfold keyC
    rw [hnN, hostK_keyN hgk, hH]
  rw [hkey] at hof hhk
  unfold isHo hostC
  by_cases hs : sc = httpsB
  · rw [if_pos hs] at hof hhk
    have e : hostK k ++ [41] ++ [115] ++ [47] = hostK k ++ [41, 115, 47] := by simp
    rw [e] at hof hhk
    rw [hof, if_pos rfl, hhk]
    simp
  · rw [if_neg hs] at hof hhk
    have e : hostK k ++ [41] ++ [] ++ [47] = hostK k ++ [41, 47] := by simp
    rw [e] at hof hhk
    rw [hof, if_pos rfl, hhk]
    simp
end Go.Proofs.YtnainpghpjelcaaGreatDoor
/-
  FRONTIER: what Take and Done leave is a right frontier; who was asked is not asked too early (plain law).
-/
set_option linter.unusedSimpArgs false
set_option linter.unusedVariables false
namespace Go.Proofs.YtnainpghpjelcaaGreatDoor
open Go.Lw Go.RowKit
set_option maxRecDepth 100000
set_option maxHeartbeats 2000000

structure TakeOk (f : Frt) (t : Int) : Prop where
  good : FrGood f
  at_ : okM t
  n0 : 0 ≤ takeN f t
  n1 : (takeN f t).toNat < f.items.length
  rdy : rdyP f t (tkW f t) = true
  late : hThere f (tkS f t) = true → late8 (hstAt f.hosts (hLb f (tkS f t))).2.2.2 t = false
  room : hThere f (tkS f t) = false → f.hosts.length < 300
theorem takeE_ok {f : Frt} {t : Int} (h : takeE f t = 0) : TakeOk f t := by
  unfold takeE at h
  by_cases h0 : atE f t ≠ 0
  · rw [if_pos h0] at h; exact absurd h h0
  rw [if_neg h0] at h
  obtain ⟨hg, ht⟩ := atE_good (show atE f t = 0 by omega)
  by_cases h1 : takeN f t < 0
  · rw [if_pos h1] at h; cases h
  rw [if_neg h1] at h
  obtain ⟨k1, k2⟩ : (takeN f t).toNat < f.items.length ∧ rdyP f t (wntAt f.items (takeN f t).toNat) = true := by
    rcases takeN_spec f t with h2 | h2
    · omega
    · exact h2.2
  refine ⟨hg, ht, by omega, k1, k2, fun e => ?_, fun e => ?_⟩
  · rw [if_pos e] at h
    split at h
    · cases h
    · rename_i h2; simpa using h2
  · rw [if_neg (by rw [e]; decide)] at h
    split at h
    · cases h
    · omega
theorem TakeOk.w {f : Frt} {t : Int} (h : TakeOk f t) : wntE (tkW f t) = 0 := h.good.wnt _ h.n1
theorem TakeOk.host {f : Frt} {t : Int} (h : TakeOk f t) : isHo (tkS f t) = true := host_isHo (wnt_key h.w).1
theorem SrtI_at {f : Frt} (hg : FrGood f) {j : Nat} (hj : j < f.hosts.length) : SrtI (hstAt f.hosts j).2.2.2 := srtI_of fun k hk => (hg.starts j hj k hk).2
/-- A host that is open has fewer starts within the window than its budget. -/
theorem open_few {f : Frt} {t : Int} (h : TakeOk f t) (e : hThere f (tkS f t) = true) : (stL (hstAt f.hosts (hLb f (tkS f t))).2.2.2 (t - f.window) t).length ≤ 200 := by
  obtain ⟨hl, hn⟩ := there_is e
  have hr := h.rdy
  have hb := h.good.budget
  unfold rdyP opensP at hr
  have e' : thereB (nameAt f.hosts) f.hosts.length (hostK (tkW f t).1) = true := e
  rw [if_neg (by rw [e']; decide)] at hr
  have e0 : lbB (nameAt f.hosts) f.hosts.length (hostK (tkW f t).1) = hLb f (tkS f t) := rfl
  rw [e0] at hr
  have hle : (hstAt f.hosts (hLb f (tkS f t))).2.2.2.filter (fun x => decide (t - f.window < x)) |>.length |> (· < f.budget.toNat) := by
    refine filter_few (SrtI_at h.good hl) (by omega) fun hbl => ?_
    by_cases hbusy : (hstAt f.hosts (hLb f (tkS f t))).2.2.1 = true
    · rw [if_pos hbusy] at hr
      simp at hr
    · rw [if_neg hbusy] at hr
      have h2 : f.budget ≤ (hstAt f.hosts (hLb f (tkS f t))).2.2.2.length := by omega
      rw [if_pos h2] at hr
      simp only [Bool.and_eq_true, decide_eq_true_eq] at hr
      have h3 := hr.2
      omega
  unfold stL
  rw [List.length_append, List.length_singleton]
  simp only at hle
  omega
theorem erase_sub {α : Type} (l : List α) (n : Nat) : (l.eraseIdx n).Sublist l := List.eraseIdx_sublist l n
theorem take_good {f : Frt} {t : Int} (h : TakeOk f t) : FrGood (takeF f t) := by
  have hg := h.good
  have hit : (f.items.eraseIdx (takeN f t).toNat).Sublist f.items := erase_sub _ _
  have hsrt : srtW (f.items.eraseIdx (takeN f t).toNat) := List.Pairwise.sublist hit (srt_of hg.keys)
  have hwn : ∀ j, j < (f.items.eraseIdx (takeN f t).toNat).length → wntE (wntAt (f.items.eraseIdx (takeN f t).toNat) j) = 0 :=
    (mem_wnt (p := fun x => wntE x = 0)).2 fun x hx => (mem_wnt (p := fun x => wntE x = 0)).1 hg.wnt x (hit.mem hx)
  have hle := hit.length_le
  have hi := hg.items
  unfold takeF
  cases hth : hThere f (tkS f t) with
  | true =>
    obtain ⟨hl, hn⟩ := there_is hth
    have hfew := open_few h hth
    have hst := stL_good (lo := t - f.window) (hg.starts _ hl) h.at_ (h.late hth)
    have hH : takeH f t (tkS f t) = f.hosts.set (hLb f (tkS f t)) ((hstAt f.hosts (hLb f (tkS f t))).1, (hstAt f.hosts (hLb f (tkS f t))).2.1, true, stL (hstAt f.hosts (hLb f (tkS f t))).2.2.2 (t - f.window) t) := by
      unfold takeH; rw [if_pos hth]
    rw [hH]
    refine ⟨hg.budget, hg.window, by show (f.items.eraseIdx _).length ≤ 2000; omega, by show (f.hosts.set _ _).length ≤ 300; rw [List.length_set]; exact hg.hosts, hwn, asc_of hsrt, set_asc rfl hg.names, fun j hj => ?_, fun j hj => ?_, fun j hj => ?_, fun j hj => ?_⟩
    · simp only [List.length_set] at hj
      exact (congrArg isHo (set_name (H := f.hosts) (k := hLb f (tkS f t)) (x := ((hstAt f.hosts (hLb f (tkS f t))).1, (hstAt f.hosts (hLb f (tkS f t))).2.1, true, stL (hstAt f.hosts (hLb f (tkS f t))).2.2.2 (t - f.window) t)) rfl j)).trans (hg.isHo j hj)
    · simp only [List.length_set] at hj
      simp only [set_at]
      split
      · exact hg.free _ hl
      · exact hg.free j hj
    · simp only [List.length_set] at hj
      simp only [set_at]
      split
      · exact hfew
      · exact hg.many j hj
    · simp only [List.length_set] at hj
      simp only [set_at]
      split
      · exact hst
      · exact hg.starts j hj
  | false =>
    have hroom := h.room hth
    have hp : hLb f (tkS f t) ≤ f.hosts.length := (lbB_spec (nameAt f.hosts) f.hosts.length (tkS f t)).1
    have hH : takeH f t (tkS f t) = f.hosts.take (hLb f (tkS f t)) ++ (tkS f t, 0, true, [t]) :: f.hosts.drop (hLb f (tkS f t)) := by
      unfold takeH; rw [if_neg (by rw [hth]; decide)]
    have hlen : (f.hosts.take (hLb f (tkS f t)) ++ (tkS f t, 0, true, [t]) :: f.hosts.drop (hLb f (tkS f t))).length = f.hosts.length + 1 := by simp; omega
    rw [hH]
    have hall : ∀ p : Hst → Prop, p (tkS f t, 0, true, [t]) → (∀ j, j < f.hosts.length → p (hstAt f.hosts j)) → ∀ j, j < f.hosts.length + 1 → p (hstAt (f.hosts.take (hLb f (tkS f t)) ++ (tkS f t, 0, true, [t]) :: f.hosts.drop (hLb f (tkS f t))) j) := fun p h1 h2 j hj => by
      rw [ins_at _ _ hp]
      split
      · exact h2 j (by omega)
      · split
        · exact h1
        · exact h2 (j - 1) (by omega)
    refine ⟨hg.budget, hg.window, by show (f.items.eraseIdx _).length ≤ 2000; omega, by show List.length _ ≤ 300; rw [hlen]; omega, hwn, asc_of hsrt, by
      show ascB (nameAt _) (List.length _)
      rw [hlen]; exact ins_asc hg.names hth _ rfl, fun j hj => ?_, fun j hj => ?_, fun j hj => ?_, fun j hj => ?_⟩
    all_goals (have hj : j < f.hosts.length + 1 := (by have h0 : j < List.length _ := hj; rw [hlen] at h0; exact h0))
    · exact hall (fun x => isHo x.1 = true) h.host hg.isHo j hj
    · exact hall (fun x => 0 ≤ x.2.1 ∧ x.2.1 ≤ 253502300799) (by simp) hg.free j hj
    · exact hall (fun x => x.2.2.2.length ≤ 200) (by simp) hg.many j hj
    · refine hall (fun x => ∀ k, k < x.2.2.2.length → okM (x.2.2.2[k]?.getD 0) ∧ (0 < k → x.2.2.2[k - 1]?.getD 0 ≤ x.2.2.2[k]?.getD 0)) ?_ hg.starts j hj
      intro k hk
      simp only [List.length_singleton] at hk
      obtain rfl : k = 0 := by omega
      exact ⟨h.at_, fun h0 => by omega⟩
/-- A right frontier is within all bounds. -/
theorem good_frOk {f : Frt} (hg : FrGood f) : FrOk f := by
  refine ⟨by have := hg.items; omega, by have := hg.hosts; omega, fun j => ?_, fun j => ?_, fun j => ?_⟩
  · rcases Nat.lt_or_ge j f.items.length with hj | hj
    · have h1 := (wnt_key (hg.wnt j hj)).1
      rcases ofK_cases (wntAt f.items j).1 with h2 | h2
      · exact absurd h1 h2.1
      · have := h2.2.1; omega
    · simp [wntAt, List.getElem?_eq_none hj]
  · rcases Nat.lt_or_ge j f.hosts.length with hj | hj
    · have h1 := hg.isHo j hj
      have h2 : ∀ e : Bs, (hstAt f.hosts j).1.length ≤ 140737488351232 ∨ hostC ((hstAt f.hosts j).1 ++ e) ≠ ((hstAt f.hosts j).1, 0) := fun e => by
        refine Classical.or_iff_not_imp_right.2 fun h3 => ?_
        have h3 : hostC ((hstAt f.hosts j).1 ++ e) = ((hstAt f.hosts j).1, 0) := Classical.not_not.1 h3
        unfold hostC at h3
        split at h3
        · rename_i h4
          rcases ofK_cases ((hstAt f.hosts j).1 ++ e) with h5 | h5
          · exact absurd h4 h5.1
          · have h6 := h5.2.1
            rw [List.length_append] at h6
            omega
        · rename_i h4
          exact absurd (Prod.mk.inj h3).2 h4
      unfold isHo at h1
      simp only [Bool.or_eq_true, decide_eq_true_eq] at h1
      rcases h1 with h1 | h1
      · exact (h2 _).resolve_right fun h => h h1
      · exact (h2 _).resolve_right fun h => h h1
    · simp [hstAt, List.getElem?_eq_none hj]
  · rcases Nat.lt_or_ge j f.hosts.length with hj | hj
    · have := hg.many j hj; omega
    · simp [hstAt, List.getElem?_eq_none hj]
/-! The host that was asked. -/
theorem take_there {f : Frt} {t : Int} (h : TakeOk f t) : hThere (takeF f t) (tkS f t) = true ∧ (hstAt (takeF f t).hosts (hLb (takeF f t) (tkS f t))).2.2.1 = true := by
  have hg := take_good h
  have key : ∀ j, j < (takeF f t).hosts.length → nameAt (takeF f t).hosts j = tkS f t → (hstAt (takeF f t).hosts j).2.2.1 = true → hThere (takeF f t) (tkS f t) = true ∧ (hstAt (takeF f t).hosts (hLb (takeF f t) (tkS f t))).2.2.1 = true := fun j hj hn hb => by
    obtain ⟨h1, h2⟩ := there_at hg.names hj
    rw [hn] at h1 h2
    refine ⟨h2, ?_⟩
    show (hstAt (takeF f t).hosts (lbB (nameAt (takeF f t).hosts) (takeF f t).hosts.length (tkS f t))).2.2.1 = true
    rw [h1]; exact hb
  cases hth : hThere f (tkS f t) with
  | true =>
    obtain ⟨hl, hn⟩ := there_is hth
    have hH : (takeF f t).hosts = f.hosts.set (hLb f (tkS f t)) ((hstAt f.hosts (hLb f (tkS f t))).1, (hstAt f.hosts (hLb f (tkS f t))).2.1, true, stL (hstAt f.hosts (hLb f (tkS f t))).2.2.2 (t - f.window) t) := by
      show takeH f t (tkS f t) = _
      unfold takeH; rw [if_pos hth]
    refine key (hLb f (tkS f t)) (by rw [hH, List.length_set]; exact hl) ?_ ?_
    · rw [hH]; exact (set_name (H := f.hosts) (k := hLb f (tkS f t)) (x := ((hstAt f.hosts (hLb f (tkS f t))).1, (hstAt f.hosts (hLb f (tkS f t))).2.1, true, stL (hstAt f.hosts (hLb f (tkS f t))).2.2.2 (t - f.window) t)) rfl _).trans hn
    · rw [hH, set_at, if_pos ⟨rfl, hl⟩]
  | false =>
    have hp : hLb f (tkS f t) ≤ f.hosts.length := (lbB_spec (nameAt f.hosts) f.hosts.length (tkS f t)).1
    have hH : (takeF f t).hosts = f.hosts.take (hLb f (tkS f t)) ++ (tkS f t, 0, true, [t]) :: f.hosts.drop (hLb f (tkS f t)) := by
      show takeH f t (tkS f t) = _
      unfold takeH; rw [if_neg (by rw [hth]; decide)]
    refine key (hLb f (tkS f t)) (by rw [hH]; simp; omega) ?_ ?_
    · rw [hH]
      simp only [nameAt]
      rw [ins_at _ _ hp, if_neg (by omega), if_pos rfl]
    · rw [hH, ins_at _ _ hp, if_neg (by omega), if_pos rfl]
theorem take_len {f : Frt} {t : Int} (h : TakeOk f t) : (takeF f t).items.length = f.items.length - 1 := by
  show (f.items.eraseIdx _).length = _
  rw [List.length_eraseIdx, if_pos h.n1]
theorem take_gone {f : Frt} {t : Int} (h : TakeOk f t) : ∀ x ∈ (takeF f t).items, x.1 ≠ (tkW f t).1 := by
  have hs := srt_of h.good.keys
  intro x hx e
  have hx : x ∈ f.items.eraseIdx (takeN f t).toNat := hx
  rw [List.eraseIdx_eq_take_drop_succ] at hx
  have hw : f.items = f.items.take (takeN f t).toNat ++ tkW f t :: f.items.drop ((takeN f t).toNat + 1) := by
    have h1 : f.items.drop (takeN f t).toNat = tkW f t :: f.items.drop ((takeN f t).toNat + 1) := by
      rw [List.drop_eq_getElem_cons h.n1]
      simp [tkW, wntAt, h.n1]
    rw [← h1, List.take_append_drop]
  have hs2 := hs
  unfold srtW at hs2
  rw [hw] at hs2
  obtain ⟨_, b2, b3⟩ := List.pairwise_append.1 hs2
  rcases List.mem_append.1 hx with hx | hx
  · exact bl_ne (b3 x hx _ (by simp)) e
  · exact bl_ne ((List.pairwise_cons.1 b2).1 x hx) e.symm
theorem busy_not {f : Frt} {s : Bs} (h1 : hThere f s = true) (h2 : (hstAt f.hosts (hLb f s)).2.2.1 = true) : (opensP f s).2 = false := by
  unfold opensP
  rw [if_neg (by rw [show thereB (nameAt f.hosts) f.hosts.length s = true from h1]; decide), if_pos h2]
/-- Who is next behind a take is another host. -/
theorem take_next {f : Frt} {t : Int} (h : TakeOk f t) (t' : Int) (h0 : 0 ≤ takeN (takeF f t) t') : (takeN (takeF f t) t').toNat < (takeF f t).items.length ∧ hostK (wntAt (takeF f t).items (takeN (takeF f t) t').toNat).1 ≠ tkS f t := by
  rcases takeN_spec (takeF f t) t' with h1 | ⟨_, h2, h3⟩
  · omega
  refine ⟨h2, fun e => ?_⟩
  obtain ⟨k1, k2⟩ := take_there h
  have hb := busy_not k1 k2
  unfold rdyP at h3
  rw [e, hb] at h3
  simp at h3
theorem done_cases {f : Frt} {t : Int} (h : TakeOk f t) (e k d : Int) : doneE (takeF f t) (tkS f t) e k d = 0 ∨ doneE (takeF f t) (tkS f t) e k d = 1 := by
  obtain ⟨k1, k2⟩ := take_there h
  unfold doneE
  rw [if_neg (fun e => e (good_frE (take_good h))), if_neg (by rw [k1]; decide), if_neg (by rw [k2]; decide)]
  split <;> simp
theorem done_parts {f : Frt} {s : Bs} {t k d : Int} (h : doneE f s t k d = 0) : frE f = 0 ∧ hThere f s = true ∧ okM t ∧ (0 ≤ k ∧ k ≤ 1000000) ∧ (0 ≤ d ∧ d ≤ 1000000) := by
  unfold doneE at h
  by_cases h0 : frE f ≠ 0
  · rw [if_pos h0] at h; exact absurd h h0
  rw [if_neg h0] at h
  by_cases h1 : hThere f s = false
  · rw [if_pos h1] at h; cases h
  rw [if_neg h1] at h
  split at h
  · cases h
  split at h
  · cases h
  rename_i h3
  simp only [not_or, decide_eq_false_iff_not, Classical.not_not] at h3
  exact ⟨by omega, by simpa using h1, h3⟩
theorem done_good {f : Frt} {s : Bs} {t k d : Int} (h : doneE f s t k d = 0) : FrGood (doneF f s t k d) := by
  obtain ⟨h0, h1, ⟨t1, t2⟩, ⟨k1, k2⟩, ⟨d1, d2⟩⟩ := done_parts h
  have hg := frE_good h0
  obtain ⟨hl, hn⟩ := there_is h1
  unfold doneF
  refine ⟨hg.budget, hg.window, hg.items, by show (f.hosts.set _ _).length ≤ 300; rw [List.length_set]; exact hg.hosts, hg.wnt, hg.keys, set_asc rfl hg.names, fun j hj => ?_, fun j hj => ?_, fun j hj => ?_, fun j hj => ?_⟩
  all_goals (have hj : j < f.hosts.length := (by have hj' : j < (f.hosts.set _ _).length := hj; rw [List.length_set] at hj'; exact hj'))
  · exact (congrArg isHo (set_name (H := f.hosts) (k := hLb f s) (x := ((hstAt f.hosts (hLb f s)).1, t + max d (4 * k), false, (hstAt f.hosts (hLb f s)).2.2.2)) rfl j)).trans (hg.isHo j hj)
  · simp only [set_at]
    split
    · simp only
      omega
    · exact hg.free j hj
  · simp only [set_at]
    split
    · exact hg.many _ hl
    · exact hg.many j hj
  · simp only [set_at]
    split
    · exact hg.starts _ hl
    · exact hg.starts j hj
/-- Who was asked is not open before its time. -/
theorem done_open {f : Frt} {s : Bs} {t k d : Int} (h : doneE f s t k d = 0) (I : List Wnt) : t + d ≤ (opensP { doneF f s t k d with items := I } s).1 ∨ (opensP { doneF f s t k d with items := I } s).2 = false := by
  obtain ⟨h0, h1, ⟨t1, t2⟩, ⟨k1, k2⟩, ⟨d1, d2⟩⟩ := done_parts h
  have hg := done_good h
  obtain ⟨hl, hn⟩ := there_is h1
  have hH : (doneF f s t k d).hosts = f.hosts.set (hLb f s) ((hstAt f.hosts (hLb f s)).1, t + max d (4 * k), false, (hstAt f.hosts (hLb f s)).2.2.2) := rfl
  have hj : hLb f s < (doneF f s t k d).hosts.length := by rw [hH, List.length_set]; exact hl
  have hnm : nameAt (doneF f s t k d).hosts (hLb f s) = s := by rw [hH]; exact (set_name (H := f.hosts) (k := hLb f s) (x := ((hstAt f.hosts (hLb f s)).1, t + max d (4 * k), false, (hstAt f.hosts (hLb f s)).2.2.2)) rfl _).trans hn
  obtain ⟨e1, e2⟩ := there_at hg.names hj
  rw [hnm] at e1 e2
  have hat : (hstAt (doneF f s t k d).hosts (hLb f s)).2.1 = t + max d (4 * k) := by rw [hH, set_at, if_pos ⟨rfl, hl⟩]
  unfold opensP
  simp only
  rw [e2, if_neg (by decide), e1]
  split
  · exact .inr rfl
  · left
    rw [hat]
    simp only
    split <;> omega
theorem polite_add {f : Frt} {t : Int} (h : TakeOk f t) {e k d : Int} (hd : doneE (takeF f t) (tkS f t) e k d = 0) : addE (doneF (takeF f t) (tkS f t) e k d) (tkW f t) = 0 := by
  refine (addE_is (done_good hd) h.w).1 (.inr ?_)
  show (takeF f t).items.length < 2000
  rw [take_len h]
  have := h.good.items
  have := h.n1
  omega
theorem polite_next {f : Frt} {t : Int} (h : TakeOk f t) {e k d : Int} (hd : doneE (takeF f t) (tkS f t) e k d = 0) (h1 : 1 ≤ d) (hm : e + d - 1 ≤ 253402300799) (I : List Wnt)
    (hI : I = addI (doneF (takeF f t) (tkS f t) e k d).items (tkW f t)) : FrGood { doneF (takeF f t) (tkS f t) e k d with items := I } ∧ okM (e + d - 1) ∧ (0 ≤ takeN { doneF (takeF f t) (tkS f t) e k d with items := I } (e + d - 1) →
      (takeN { doneF (takeF f t) (tkS f t) e k d with items := I } (e + d - 1)).toNat < I.length ∧ hostK (wntAt I (takeN { doneF (takeF f t) (tkS f t) e k d with items := I } (e + d - 1)).toNat).1 ≠ tkS f t) := by
  obtain ⟨_, _, ⟨t1, t2⟩, _, _⟩ := done_parts hd
  obtain ⟨a1, a2, a3⟩ := addE_zero (polite_add h hd)
  have hg2 := add_good (frE_good a1) a2 a3
  rw [← hI] at hg2
  refine ⟨hg2, ⟨by omega, hm⟩, fun h0 => ?_⟩
  rcases takeN_spec { doneF (takeF f t) (tkS f t) e k d with items := I } (e + d - 1) with h3 | ⟨_, h4, h5⟩
  · omega
  refine ⟨h4, fun he => ?_⟩
  have ho := done_open hd I
  unfold rdyP at h5
  rw [he] at h5
  simp only [Bool.and_eq_true, decide_eq_true_eq] at h5
  rcases ho with ho | ho
  · exact absurd (Int.le_trans ho h5.2) (by omega)
  · rw [ho] at h5
    cases h5.1.2
end Go.Proofs.YtnainpghpjelcaaGreatDoor
