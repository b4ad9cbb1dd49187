/-
  FRONTIER: Add, the plain law: items put in one behind the other stand as they stand the other way round.
-/
import Derived.Test.YtpmfmjgnhdfakaaGreatDoorFmC
import Derived.Test.YtpmfmjgnhdfakaaGreatDoorFnD
set_option linter.unusedSimpArgs false
set_option linter.unusedVariables false
namespace Go.Proofs.YtpmfmjgnhdfakaaGreatDoor
open Go.Lw Go.RowKit
set_option maxRecDepth 100000
set_option maxHeartbeats 2000000

theorem bl_asymm {a b : Bs} (h : Op.bytesLess a b = true) : Op.bytesLess b a = false := by
  cases h2 : Op.bytesLess b a with
  | false => rfl
  | true => have := bl_trans h h2; rw [bl_irrefl] at this; cases this
theorem bl_ne {a b : Bs} (h : Op.bytesLess a b = true) : a ≠ b := fun e => by rw [e, bl_irrefl] at h; cases h
/-- An item put in. -/
def putW : List Wnt → Wnt → List Wnt
  | [], w => [w]
  | x :: r, w => if x.1 = w.1 then joinW x w :: r else if Op.bytesLess x.1 w.1 = true then x :: putW r w else w :: x :: r
theorem putW_split : ∀ (A B : List Wnt) (w : Wnt), (∀ x ∈ A, Op.bytesLess x.1 w.1 = true) → putW (A ++ B) w = A ++ putW B w
  | [], B, w, _ => rfl
  | x :: A, B, w, h => by
    have h1 := h x (by simp)
    rw [List.cons_append, putW, if_neg (bl_ne h1), if_pos h1, putW_split A B w fun y hy => h y (by simp [hy])]
    rfl
theorem addI_put (I : List Wnt) (w : Wnt) : addI I w = putW I w := by
  obtain ⟨p1, p2, p3⟩ := lbB_spec (keyAt I) I.length w.1
  unfold addI thereB
  generalize lbB (keyAt I) I.length w.1 = p at p1 p2 p3 ⊢
  have hA : ∀ x ∈ I.take p, Op.bytesLess x.1 w.1 = true := fun x hx => by
    obtain ⟨j, hj⟩ := List.mem_iff_getElem?.1 hx
    rw [List.getElem?_take] at hj
    split at hj
    · rename_i hjp
      have := p2 j hjp
      simp only [keyAt, wntAt, hj, Option.getD_some] at this
      exact this
    · cases hj
  have e : putW I w = I.take p ++ putW (I.drop p) w := by
    rw [← putW_split _ _ _ hA, List.take_append_drop]
  rw [e]
  by_cases hp : p < I.length
  · have hd : I.drop p = I[p] :: I.drop (p + 1) := List.drop_eq_getElem_cons hp
    have hk : keyAt I p = I[p].1 := by simp [keyAt, wntAt, hp]
    have hw : wntAt I p = I[p] := by simp [wntAt, hp]
    have h3 := p3 hp
    rw [hk] at h3
    rw [hd, putW, hk, hw]
    by_cases hx : I[p].1 = w.1
    · rw [if_pos hx, if_pos (by simp [hp, hx]), List.set_eq_take_append_cons_drop, if_pos hp]
    · rw [if_neg hx, if_neg (by simp [hx]), if_neg (by rw [h3]; decide)]
  · have hd : I.drop p = [] := List.drop_eq_nil_of_le (by omega)
    rw [hd, if_neg (by simp [hp])]
    rfl
theorem min_assoc3 (a b c : Int) : min (min a b) c = min (min a c) b := by omega
theorem join_comm3 (x a b : Wnt) : joinW (joinW x a) b = joinW (joinW x b) a := by
  simp only [joinW]
  rw [min_assoc3 x.2.1, min_assoc3 x.2.2]
theorem join_comm {a b : Wnt} (h : a.1 = b.1) : joinW a b = joinW b a := by
  simp only [joinW]
  rw [h, Int.min_comm, Int.min_comm a.2.2]
@[simp] theorem joinW_fst (a b : Wnt) : (joinW a b).1 = a.1 := rfl
theorem put_two {a b : Wnt} (r : List Wnt) (h : Op.bytesLess a.1 b.1 = true) : putW (b :: r) a = a :: b :: r := by
  rw [putW, if_neg (fun e => bl_ne h e.symm), if_neg (by rw [bl_asymm h]; decide)]
theorem put_less {x w : Wnt} (r : List Wnt) (h : Op.bytesLess x.1 w.1 = true) : putW (x :: r) w = x :: putW r w := by
  rw [putW, if_neg (bl_ne h), if_pos h]
theorem put_same {x w : Wnt} (r : List Wnt) (h : x.1 = w.1) : putW (x :: r) w = joinW x w :: r := by
  rw [putW, if_pos h]
theorem three (a b : Bs) : Op.bytesLess a b = true ∨ a = b ∨ Op.bytesLess b a = true := by
  cases h : Op.bytesLess a b with
  | true => exact .inl rfl
  | false =>
    by_cases e : a = b
    · exact .inr (.inl e)
    · exact .inr (.inr (bl_total h e))
theorem put_comm : ∀ (I : List Wnt) (a b : Wnt), putW (putW I a) b = putW (putW I b) a
  | [], a, b => by
    simp only [putW]
    rcases three a.1 b.1 with h | h | h
    · rw [if_neg (bl_ne h), if_pos h, if_neg (fun e => bl_ne h e.symm), if_neg (by rw [bl_asymm h]; decide)]
    · rw [if_pos h, if_pos h.symm, join_comm h]
    · rw [if_neg (fun e => bl_ne h e.symm), if_neg (by rw [bl_asymm h]; decide), if_neg (bl_ne h), if_pos h]
  | x :: r, a, b => by
    rcases three x.1 a.1 with ha | ha | ha <;> rcases three x.1 b.1 with hb | hb | hb
    · rw [put_less r ha, put_less r hb, put_less _ hb, put_less _ ha, put_comm r a b]
    · rw [put_less r ha, put_same r hb, put_same _ hb, put_less r (by simpa using ha)]
    · rw [put_less r ha, put_two r hb, put_two _ hb, put_less _ (bl_trans hb ha), put_less r ha]
    · rw [put_same r ha, put_less r hb, put_less r (by simpa using hb), put_same _ ha]
    · rw [put_same r ha, put_same r hb, put_same r (by simpa using hb), put_same r (by simpa using ha), join_comm3]
    · rw [put_same r ha, put_two r hb, put_two r (by simpa using hb), put_less _ (by rw [← ha]; exact hb), put_same r ha]
    · rw [put_two r ha, put_less r hb, put_less _ (bl_trans ha hb), put_less r hb, put_two _ ha]
    · rw [put_two r ha, put_same r hb, put_less _ (by rw [← hb]; exact ha), put_same r hb, put_two r (by simpa using ha)]
    · rw [put_two r ha, put_two r hb]
      rcases three a.1 b.1 with h | h | h
      · rw [put_less _ h, put_two r hb, put_two _ h]
      · rw [put_same _ h, put_same _ h.symm, join_comm h]
      · rw [put_two _ h, put_less _ h, put_two r ha]
/-- Items that stand in order. -/
def srtW (I : List Wnt) : Prop := I.Pairwise fun a b => Op.bytesLess a.1 b.1 = true
theorem srt_of {I : List Wnt} (h : ascB (keyAt I) I.length) : srtW I := by
  refine List.pairwise_iff_getElem.2 fun i j hi hj hij => ?_
  have := h i j hij hj
  simpa [keyAt, wntAt, hi, hj] using this
theorem asc_of {I : List Wnt} (h : srtW I) : ascB (keyAt I) I.length := by
  intro i j hij hj
  have := List.pairwise_iff_getElem.1 h i j (by omega) hj hij
  have hi : i < I.length := by omega
  simpa [keyAt, wntAt, hi, hj] using this
def hasK (I : List Wnt) (k : Bs) : Prop := ∃ x ∈ I, x.1 = k
theorem put_has : ∀ (I : List Wnt) (w : Wnt) (k : Bs), hasK (putW I w) k ↔ hasK I k ∨ w.1 = k
  | [], w, k => by simp [hasK, putW]
  | x :: r, w, k => by
    have ih := put_has r w k
    rcases three x.1 w.1 with h | h | h
    · rw [put_less r h]
      simp only [hasK, List.mem_cons, exists_eq_or_imp] at ih ⊢
      rw [ih]
      constructor
      · rintro (h | h | h) <;> simp [h]
      · rintro ((h | h) | h) <;> simp [h]
    · rw [put_same r h]
      simp only [hasK, List.mem_cons, exists_eq_or_imp, joinW_fst]
      constructor
      · rintro (h | h) <;> simp [h]
      · rintro ((h2 | h2) | h2)
        · simp [h2]
        · simp [h2]
        · exact .inl (h.trans h2)
    · rw [put_two r h]
      simp only [hasK, List.mem_cons, exists_eq_or_imp]
      constructor
      · rintro (h | h | h) <;> simp [h]
      · rintro ((h | h) | h) <;> simp [h]
theorem put_srt : ∀ {I : List Wnt} {w : Wnt}, srtW I → srtW (putW I w)
  | [], w, _ => by simp [srtW, putW]
  | x :: r, w, h => by
    obtain ⟨h1, h2⟩ := List.pairwise_cons.1 h
    rcases three x.1 w.1 with h3 | h3 | h3
    · rw [put_less r h3]
      refine List.pairwise_cons.2 ⟨fun y hy => ?_, put_srt h2⟩
      rcases (put_has r w y.1).1 ⟨y, hy, rfl⟩ with ⟨z, hz, he⟩ | he
      · rw [← he]; exact h1 z hz
      · rw [← he]; exact h3
    · rw [put_same r h3]
      exact List.pairwise_cons.2 ⟨fun y hy => h1 y hy, h2⟩
    · rw [put_two r h3]
      refine List.pairwise_cons.2 ⟨fun y hy => ?_, h⟩
      rcases List.mem_cons.1 hy with rfl | hy
      · exact h3
      · exact bl_trans h3 (h1 y hy)
theorem put_len_old : ∀ {I : List Wnt} {w : Wnt}, srtW I → hasK I w.1 → (putW I w).length = I.length
  | [], w, _, h => by obtain ⟨_, h, _⟩ := h; cases h
  | x :: r, w, h, hk => by
    obtain ⟨h1, h2⟩ := List.pairwise_cons.1 h
    rcases three x.1 w.1 with h3 | h3 | h3
    · rw [put_less r h3, List.length_cons, put_len_old h2 ?_, List.length_cons]
      obtain ⟨y, hy, he⟩ := hk
      rcases List.mem_cons.1 hy with rfl | hy
      · exact absurd he (bl_ne h3)
      · exact ⟨y, hy, he⟩
    · rw [put_same r h3]; rfl
    · exfalso
      obtain ⟨y, hy, he⟩ := hk
      rcases List.mem_cons.1 hy with rfl | hy
      · exact bl_ne h3 he.symm
      · exact bl_ne (bl_trans h3 (h1 y hy)) he.symm
theorem put_len_new : ∀ {I : List Wnt} {w : Wnt}, ¬ hasK I w.1 → (putW I w).length = I.length + 1
  | [], w, _ => rfl
  | x :: r, w, hk => by
    rcases three x.1 w.1 with h3 | h3 | h3
    · rw [put_less r h3, List.length_cons, put_len_new fun ⟨y, hy, he⟩ => hk ⟨y, by simp [hy], he⟩]
      rfl
    · exact absurd ⟨x, by simp, h3⟩ hk
    · rw [put_two r h3]; rfl
theorem put_mem : ∀ (I : List Wnt) (w : Wnt) (y : Wnt), y ∈ putW I w → y ∈ I ∨ y = w ∨ ∃ x ∈ I, y = joinW x w
  | [], w, y, h => by simp [putW] at h; simp [h]
  | x :: r, w, y, h => by
    rcases three x.1 w.1 with h3 | h3 | h3
    · rw [put_less r h3] at h
      rcases List.mem_cons.1 h with rfl | h
      · simp
      · rcases put_mem r w y h with h | h | ⟨z, hz, h⟩
        · simp [h]
        · simp [h]
        · exact .inr (.inr ⟨z, by simp [hz], h⟩)
    · rw [put_same r h3] at h
      rcases List.mem_cons.1 h with rfl | h
      · exact .inr (.inr ⟨x, by simp, rfl⟩)
      · simp [h]
    · rw [put_two r h3] at h
      rcases List.mem_cons.1 h with rfl | h
      · simp
      · exact .inl h
theorem there_has {I : List Wnt} (h : ascB (keyAt I) I.length) (k : Bs) : thereB (keyAt I) I.length k = true ↔ hasK I k := by
  constructor
  · intro ht
    unfold thereB at ht
    simp only [Bool.and_eq_true, decide_eq_true_eq] at ht
    refine ⟨wntAt I (lbB (keyAt I) I.length k), ?_, ht.2⟩
    simp only [wntAt, List.getElem?_eq_getElem ht.1, Option.getD_some]
    exact List.getElem_mem ht.1
  · rintro ⟨x, hx, rfl⟩
    obtain ⟨j, hj⟩ := List.mem_iff_getElem?.1 hx
    have hl : j < I.length := (List.getElem?_eq_some_iff.1 hj).1
    have hk : keyAt I j = x.1 := by simp [keyAt, wntAt, hj]
    have e : lbB (keyAt I) I.length x.1 = j := lbB_of (by omega) (fun i hi => by rw [← hk]; exact h i j hi hl) (fun _ => by rw [hk]; exact bl_irrefl _)
    unfold thereB
    rw [e]
    simp [hl, hk]
/-! What is right has no fault. -/
theorem wntE_of {x : Wnt} (h : wntE x = 0) : (ofK x.1).2 = 0 ∧ (0 ≤ x.2.1 ∧ x.2.1 ≤ 9) ∧ okM x.2.2 := by
  unfold wntE at h
  by_cases h1 : (ofK x.1).2 ≠ 0
  · rw [if_pos h1] at h; exact absurd h h1
  · rw [if_neg h1] at h
    split at h
    · cases h
    · rename_i h2
      exact ⟨by omega, by simpa using fun e => h2 (.inl (decide_eq_false e)), by simpa using fun e => h2 (.inr (decide_eq_false e))⟩
theorem wntE_to {x : Wnt} (h1 : (ofK x.1).2 = 0) (h2 : 0 ≤ x.2.1 ∧ x.2.1 ≤ 9) (h3 : okM x.2.2) : wntE x = 0 := by
  unfold wntE
  rw [if_neg (fun e => e h1), if_neg (by simp [h2, h3])]
theorem joinW_ok {x w : Wnt} (hx : wntE x = 0) (hw : wntE w = 0) : wntE (joinW x w) = 0 := by
  obtain ⟨a1, a2, a3, a4⟩ := wntE_of hx
  obtain ⟨b1, b2, b3, b4⟩ := wntE_of hw
  refine wntE_to a1 ?_ ?_
  · show 0 ≤ min x.2.1 w.2.1 ∧ min x.2.1 w.2.1 ≤ 9
    omega
  · show 0 ≤ min x.2.2 w.2.2 ∧ min x.2.2 w.2.2 ≤ _
    omega
theorem mem_wnt {L : List Wnt} {p : Wnt → Prop} : (∀ j, j < L.length → p (wntAt L j)) ↔ ∀ x ∈ L, p x := by
  constructor
  · intro h x hx
    obtain ⟨j, hj⟩ := List.mem_iff_getElem?.1 hx
    have := h j (List.getElem?_eq_some_iff.1 hj).1
    simpa [wntAt, hj] using this
  · intro h j hj
    simp only [wntAt, List.getElem?_eq_getElem hj, Option.getD_some]
    exact h _ (List.getElem_mem hj)
theorem add_good {f : Frt} {w : Wnt} (hg : FrGood f) (hw : wntE w = 0) (hl : (addI f.items w).length ≤ 2000) : FrGood { f with items := addI f.items w } := by
  rw [addI_put] at hl ⊢
  refine ⟨hg.budget, hg.window, hl, hg.hosts, (mem_wnt (p := fun x => wntE x = 0)).2 fun x hx => ?_, asc_of (put_srt (srt_of hg.keys)), hg.names, hg.isHo, hg.free, hg.many, hg.starts⟩
  have h0 := (mem_wnt (p := fun x => wntE x = 0)).1 hg.wnt
  rcases put_mem _ _ _ hx with h | h | ⟨y, hy, h⟩
  · exact h0 x h
  · rw [h]; exact hw
  · rw [h]; exact joinW_ok (h0 y hy) hw
theorem add_frOk {f : Frt} {w : Wnt} (hf : FrOk f) (hg : FrGood f) (hw : w.1.length ≤ 140737488351232) : FrOk { f with items := addI f.items w } := by
  rw [addI_put]
  refine ⟨?_, hf.hosts, fun j => ?_, hf.names, hf.starts⟩
  · show (putW f.items w).length ≤ _
    have := hg.items
    by_cases h : hasK f.items w.1
    · rw [put_len_old (srt_of hg.keys) h]; omega
    · rw [put_len_new h]; omega
  · show (wntAt (putW f.items w) j).1.length ≤ _
    rcases Nat.lt_or_ge j (putW f.items w).length with hj | hj
    · refine (mem_wnt (p := fun x => x.1.length ≤ 140737488351232)).2 (fun x hx => ?_) j hj
      have h0 : ∀ x ∈ f.items, x.1.length ≤ 140737488351232 := (mem_wnt (p := fun x => x.1.length ≤ 140737488351232)).1 fun j _ => hf.keys j
      rcases put_mem _ _ _ hx with h | h | ⟨y, hy, h⟩
      · exact h0 x h
      · rw [h]; exact hw
      · rw [h]; exact h0 y hy
    · simp [wntAt, List.getElem?_eq_none hj]
/-- What Add says. -/
theorem addE_zero {f : Frt} {w : Wnt} (h : addE f w = 0) : frE f = 0 ∧ wntE w = 0 ∧ (addI f.items w).length ≤ 2000 := by
  unfold addE at h
  by_cases h1 : frE f = 0
  · rw [if_neg (fun e => e h1)] at h
    by_cases h2 : wntE w = 0
    · rw [if_neg (fun e => e h2)] at h
      have hg := frE_good h1
      refine ⟨h1, h2, ?_⟩
      rw [addI_put]
      have hi := hg.items
      by_cases h3 : hasK f.items w.1
      · rw [put_len_old (srt_of hg.keys) h3]; exact hi
      · rw [put_len_new h3]
        rcases Nat.lt_or_ge f.items.length 2000 with h4 | h4
        · omega
        · rw [if_pos ⟨Bool.eq_false_iff.2 fun e => h3 ((there_has hg.keys _).1 e), h4⟩] at h
          cases h
    · rw [if_pos h2] at h; exact absurd h h2
  · rw [if_pos h1] at h; exact absurd h h1
end Go.Proofs.YtpmfmjgnhdfakaaGreatDoor
