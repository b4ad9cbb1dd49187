/-
  PAGE, IN PLAIN LEAN: the edits of a page.
-/
import Derived.Test.YtjbabjfmcganpaaGreatDoorLtB
import Derived.Test.YtjbabjfmcganpaaGreatDoorLkE
set_option linter.unusedSimpArgs false
set_option linter.unusedVariables false
namespace Go.Proofs.YtjbabjfmcganpaaGreatDoor
open Go.Lw
set_option maxRecDepth 100000
set_option maxHeartbeats 1000000

/-- What is known on the way: the edits, how many links went by, how many were turned. -/
structure EdS where
  E : List Edt
  k : Nat
  n : Nat
def styE1 (T : List Trn) (L : List Lnk) (q : Nat) (x : Nat × Nat) (r : EdS) : EdS :=
  if turnB T (L[r.k]?.getD .none) = true then ⟨r.E ++ [⟨q + x.1, q + x.2, turnT T (L[r.k]?.getD .none)⟩], r.k + 1, r.n + 1⟩ else ⟨r.E, r.k + 1, r.n⟩
def styGo (T : List Trn) (L : List Lnk) (q : Nat) (X : List (Nat × Nat)) (s : EdS) : Nat → EdS
  | 0 => s
  | j + 1 => styE1 T L q (X[j]?.getD (0, 0)) (styGo T L q X s j)
/-- The spans of an attribute; what becomes of its value. -/
def attX (t : Tk) (k : Nat) : List (Nat × Nat) := spansF (kindB t (t.atts[k]?.getD .none).name) (t.atts[k]?.getD .none).val
def attV (T : List Trn) (L : List Lnk) (t : Tk) (k i : Nat) : VaS := valGo T (t.atts[k]?.getD .none).val (attX t k) (fun j => L[i + j]?.getD .none) (attX t k).length
def attE1 (p : Bs) (T : List Trn) (L : List Lnk) (t : Tk) (k : Nat) (r : EdS) : EdS :=
  if hasL t k = true then ⟨if (attV T L t k r.k).any = true then r.E ++ [⟨(t.atts[k]?.getD .none).fr, (t.atts[k]?.getD .none).til, writR p (t.atts[k]?.getD .none).fr ((attV T L t k r.k).out ++ (t.atts[k]?.getD .none).val.drop (attV T L t k r.k).fr)⟩] else r.E, r.k + (attX t k).length, r.n + (attV T L t k r.k).many⟩ else r
def attGo (p : Bs) (T : List Trn) (L : List Lnk) (t : Tk) (s : EdS) : Nat → EdS
  | 0 => s
  | k + 1 => attE1 p T L t k (attGo p T L t s k)
def tokX (p : Bs) (m : List Tk) (i : Nat) : List (Nat × Nat) := inS (cutB p ((m[i]?.getD .none).fr, (m[i]?.getD .none).til)) 0
def tokE (p : Bs) (T : List Trn) (L : List Lnk) (m : List Tk) (i : Nat) (s : EdS) : EdS :=
  attGo p T L (m[i]?.getD .none) (if styTx m i = true then styGo T L (m[i]?.getD .none).fr (tokX p m i) s (tokX p m i).length else s) (m[i]?.getD .none).atts.length
def edGo (p : Bs) (T : List Trn) (L : List Lnk) (m : List Tk) : Nat → EdS
  | 0 => ⟨[], 0, 0⟩
  | i + 1 => tokE p T L m i (edGo p T L m i)
/-- How many links went by. -/
theorem styGo_k (T : List Trn) (L : List Lnk) (q : Nat) (X : List (Nat × Nat)) (s : EdS) : ∀ j, (styGo T L q X s j).k = s.k + j
  | 0 => rfl
  | j + 1 => by
    have := styGo_k T L q X s j
    unfold styGo styE1
    split <;> (simp only; omega)
theorem attLs_k (a b : Adr) (t : Tk) (k : Nat) : (attLs a b t k).length = if hasL t k = true then (attX t k).length else 0 := by
  unfold attLs attX
  split <;> simp
theorem attGo_k (p : Bs) (T : List Trn) (L : List Lnk) (a b : Adr) (t : Tk) (s : EdS) : ∀ k, (attGo p T L t s k).k = s.k + (attsLs a b t k).length
  | 0 => rfl
  | k + 1 => by
    have h1 := attGo_k p T L a b t s k
    have h2 : (attsLs a b t (k + 1)).length = (attsLs a b t k).length + (attLs a b t k).length := by simp [attsLs]
    have h3 := attLs_k a b t k
    unfold attGo attE1
    split
    · rename_i h
      rw [if_pos h] at h3
      simp only
      omega
    · rename_i h
      rw [if_neg h] at h3
      omega
theorem styLs_k (p : Bs) (a b : Adr) (m : List Tk) (i : Nat) : (styLs p a b m i).length = if styTx m i = true then (tokX p m i).length else 0 := by
  unfold styLs tokX
  split <;> simp
/-- What is known when a token begins, behind the text of a style. -/
def styS (p : Bs) (T : List Trn) (L : List Lnk) (m : List Tk) (i : Nat) (s : EdS) : EdS := if styTx m i = true then styGo T L (m[i]?.getD .none).fr (tokX p m i) s (tokX p m i).length else s
theorem styS_k (p : Bs) (T : List Trn) (L : List Lnk) (a b : Adr) (m : List Tk) (i : Nat) (s : EdS) : (styS p T L m i s).k = s.k + (styLs p a b m i).length := by
  have h := styLs_k p a b m i
  have h2 := styGo_k T L (m[i]?.getD .none).fr (tokX p m i) s (tokX p m i).length
  unfold styS
  split
  · rename_i hs
    rw [if_pos hs] at h
    omega
  · rename_i hs
    rw [if_neg hs] at h
    omega
theorem edGo_k (p : Bs) (T : List Trn) (L : List Lnk) (a b : Adr) (m : List Tk) : ∀ i, (edGo p T L m i).k = (allLs p a b m i).length
  | 0 => rfl
  | i + 1 => by
    have h1 := edGo_k p T L a b m i
    have h2 := styS_k p T L a b m i (edGo p T L m i)
    have h3 := attGo_k p T L a b (m[i]?.getD .none) (styS p T L m i (edGo p T L m i)) (m[i]?.getD .none).atts.length
    have h4 : (allLs p a b m (i + 1)).length = (allLs p a b m i).length + ((styLs p a b m i).length + (attsLs a b (m[i]?.getD .none) (m[i]?.getD .none).atts.length).length) := by
      show (allLs p a b m i ++ (styLs p a b m i ++ attsLs a b (m[i]?.getD .none) (m[i]?.getD .none).atts.length)).length = _
      rw [List.length_append, List.length_append]
    show (attGo p T L (m[i]?.getD .none) (styS p T L m i (edGo p T L m i)) (m[i]?.getD .none).atts.length).k = _
    omega
theorem attsLs_mono (a b : Adr) (t : Tk) {j k : Nat} (h : j ≤ k) : (attsLs a b t j).length ≤ (attsLs a b t k).length := by
  induction k with
  | zero => obtain rfl : j = 0 := by omega
            exact Nat.le_refl _
  | succ k ih =>
    rcases Nat.lt_or_ge j (k + 1) with h2 | h2
    · have := ih (by omega)
      show _ ≤ (attsLs a b t k ++ attLs a b t k).length
      rw [List.length_append]
      omega
    · obtain rfl : j = k + 1 := by omega
      exact Nat.le_refl _
/-- Edits that lie ahead of a place. -/
structure EdIn (s : EdS) (a : Nat) : Prop where
  ord : edOrd s.E 0 a
  less : s.E.length ≤ s.n
  many : s.n ≤ s.k
  new : ∀ i : Nat, (s.E[i]?.getD Edt.none).new.length ≤ 200000000
theorem Ord.up {r : List (Nat × Nat)} {a b c : Nat} (h : Ord r a b) (hc : b ≤ c) : Ord r a c := by
  have := h.append (show Ord [] b c from hc)
  rwa [List.append_nil] at this
theorem EdIn.up {s : EdS} {a b : Nat} (h : EdIn s a) (hb : a ≤ b) : EdIn s b := ⟨Ord.up h.ord hb, h.less, h.many, h.new⟩
theorem EdIn.push {s : EdS} {a : Nat} (h : EdIn s a) {f t : Nat} {w : Bs} (h1 : a ≤ f) (h2 : f ≤ t) (hw : w.length ≤ 200000000) {k n : Nat} (hk : n ≤ k) (hn : s.n < n) : EdIn ⟨s.E ++ [⟨f, t, w⟩], k, n⟩ t := by
  refine ⟨?_, ?_, hk, fun i => ?_⟩
  · show Ord ((s.E ++ [(⟨f, t, w⟩ : Edt)]).map fun x => (x.fr, x.til)) 0 t
    rw [List.map_append]
    exact Ord.append h.ord (show Ord [(f, t)] a t from ⟨h1, h2, Nat.le_refl _⟩)
  · have := h.less
    simp only [List.length_append, List.length_singleton]
    omega
  · rcases Nat.lt_trichotomy i s.E.length with hi | hi | hi
    · have := h.new i
      rwa [List.getElem?_append_left hi]
    · simp only
      rw [hi, List.getElem?_append_right (Nat.le_refl _), Nat.sub_self]
      exact hw
    · simp only
      rw [List.getElem?_eq_none (by simp; omega)]
      simp
theorem styGo_in {T : List Trn} (hT : trnE T = 0) {L : List Lnk} (hL : ∀ x ∈ L, LnkIn x) {q w : Nat} {X : List (Nat × Nat)} (hX : Ord X 0 w) {s : EdS} (hs : EdIn s q) : ∀ j, j ≤ X.length → EdIn (styGo T L q X s j) (if j < X.length then q + (X[j]?.getD (0, 0)).1 else q + w)
  | 0, _ => by
    refine hs.up ?_
    split <;> omega
  | j + 1, hj => by
    have ih := styGo_in hT hL hX hs j (by omega)
    rw [if_pos (by omega)] at ih
    have h1 := hX.get j (by omega)
    have h2 : q + (X[j]?.getD (0, 0)).2 ≤ if j + 1 < X.length then q + (X[j + 1]?.getD (0, 0)).1 else q + w := by
      split
      · rename_i h
        have := hX.next j h
        omega
      · omega
    have hl := turnT_len hT (lnkIn_get hL (styGo T L q X s j).k)
    have hm := ih.many
    show EdIn (styE1 T L q (X[j]?.getD (0, 0)) (styGo T L q X s j)) _
    unfold styE1
    split
    · exact (ih.push (by omega) (by omega) (by omega) (by omega) (by omega)).up h2
    · exact EdIn.up (a := q + (X[j]?.getD (0, 0)).1) ⟨ih.ord, ih.less, by simp only; omega, ih.new⟩ (by omega)
theorem attV_in {T : List Trn} (hT : trnE T = 0) {L : List Lnk} (hL : ∀ x ∈ L, LnkIn x) (t : Tk) (k i : Nat) :
    (attV T L t k i).out.length ≤ (attV T L t k i).fr + 4001 * (attX t k).length ∧ (attV T L t k i).fr ≤ (t.atts[k]?.getD .none).val.length ∧ (attV T L t k i).many ≤ (attX t k).length ∧ ((attV T L t k i).any = true → 0 < (attV T L t k i).many) ∧ (0 < (attV T L t k i).many → (attV T L t k i).any = true) := by
  have := valGo_in hT (spansF_ord (kindB t (t.atts[k]?.getD .none).name) (t.atts[k]?.getD .none).val) (L := fun j => L[i + j]?.getD .none) (fun j => lnkIn_get hL (i + j)) (attX t k).length (Nat.le_refl _)
  exact ⟨this.1, this.2.1, this.2.2.1, this.2.2.2.2.1, this.2.2.2.2.2⟩
theorem attGo_in {p : Bs} {T : List Trn} (hT : trnE T = 0) {L : List Lnk} (hL : ∀ x ∈ L, LnkIn x) {t : Tk} {q : Nat} (hA : OrdA t.atts q t.til) (hv : ∀ x ∈ t.atts, x.val.length ≤ 200000) {s : EdS} (hs : EdIn s q) : ∀ k, k ≤ t.atts.length → (attGo p T L t s k).k ≤ 5000 → EdIn (attGo p T L t s k) (if k < t.atts.length then (t.atts[k]?.getD .none).fr else t.til)
  | 0, _, _ => by
    refine hs.up ?_
    have h0 := hA.ord
    split
    · rename_i h
      have := Ord.get h0 0 (by simpa using h)
      rw [List.getElem?_map, List.getElem?_eq_getElem h] at this
      rw [List.getElem?_eq_getElem h]
      exact this.1
    · exact Ord.le h0
  | k + 1, hk, h5 => by
    have hO := hA.ord
    have hk0 : k < t.atts.length := by omega
    have hst : attGo p T L t s (k + 1) = attE1 p T L t k (attGo p T L t s k) := rfl
    have hkk : (attGo p T L t s k).k ≤ 5000 ∧ (hasL t k = true → (attGo p T L t s k).k + (attX t k).length ≤ 5000) := by
      rw [hst] at h5
      unfold attE1 at h5
      split at h5
      · simp only at h5
        exact ⟨by omega, fun _ => h5⟩
      · rename_i hn
        exact ⟨h5, fun h => absurd h hn⟩
    have ih := attGo_in hT hL hA hv hs k (by omega) hkk.1
    rw [if_pos hk0] at ih
    have h1 := Ord.get hO k (by simpa using hk0)
    rw [List.getElem?_map, List.getElem?_eq_getElem hk0] at h1
    have h1' : q ≤ (t.atts[k]?.getD .none).fr ∧ (t.atts[k]?.getD .none).fr ≤ (t.atts[k]?.getD .none).til ∧ (t.atts[k]?.getD .none).til ≤ t.til := by
      rw [List.getElem?_eq_getElem hk0]; exact h1
    have h2 : (t.atts[k]?.getD .none).til ≤ if k + 1 < t.atts.length then (t.atts[k + 1]?.getD .none).fr else t.til := by
      split
      · rename_i h
        have := Ord.next hO k (by simpa using h)
        rw [List.getElem?_map, List.getElem?_map, List.getElem?_eq_getElem hk0, List.getElem?_eq_getElem h] at this
        rw [List.getElem?_eq_getElem hk0, List.getElem?_eq_getElem h]
        exact this
      · exact h1'.2.2
    have hvl : (t.atts[k]?.getD .none).val.length ≤ 200000 := by
      rw [List.getElem?_eq_getElem hk0]
      exact hv _ (List.getElem_mem hk0)
    obtain ⟨v1, v2, v3, v4, v5⟩ := attV_in hT hL t k (attGo p T L t s k).k
    have hm := ih.many
    rw [hst]
    unfold attE1
    split
    · rename_i hh
      have h6 := hkk.2 hh
      split
      · rename_i ha
        have v6 := v4 ha
        refine (ih.push (Nat.le_refl _) h1'.2.1 ?_ (by omega) (by omega)).up h2
        refine Nat.le_trans (writR_len _ _ _) ?_
        simp only [List.length_append, List.length_drop]
        omega
      · exact EdIn.up (a := (t.atts[k]?.getD .none).fr) ⟨ih.ord, by have := ih.less; simp only; omega, by simp only; omega, ih.new⟩ (by omega)
    · exact ih.up (by omega)
/-- The edits of a page lie within it, in order. -/
theorem edGo_in {p : Bs} {T : List Trn} (hT : trnE T = 0) {L : List Lnk} (hL : ∀ x ∈ L, LnkIn x) {m : List Tk} (hm : TkIn p m) (hA : ∀ i, i < m.length → OrdA (m[i]?.getD .none).atts (m[i]?.getD .none).fr (m[i]?.getD .none).til)
    (hN : ∀ i, i + 1 < m.length → (m[i]?.getD .none).til ≤ (m[i + 1]?.getD .none).fr) (a b : Adr) (h5 : (allLs p a b m m.length).length ≤ 5000) : ∀ i, i ≤ m.length → EdIn (edGo p T L m i) (if i < m.length then (m[i]?.getD .none).fr else p.length)
  | 0, _ => ⟨by show Ord [] 0 _; exact Nat.zero_le _, Nat.le_refl _, Nat.le_refl _, fun i => by simp [edGo]⟩
  | i + 1, hi => by
    have ih := edGo_in hT hL hm hA hN a b h5 i (by omega)
    rw [if_pos (by omega)] at ih
    have hA1 := hA i (by omega)
    have hin := hm.ins i (by omega)
    have hto : (m[i]?.getD .none).til ≤ if i + 1 < m.length then (m[i + 1]?.getD .none).fr else p.length := by
      split
      · rename_i h; exact hN i h
      · exact hin.2
    have hk := edGo_k p T L a b m (i + 1)
    have hmo := allLs_mono p a b m (i + 1) m.length hi
    have hk5 : (attGo p T L (m[i]?.getD .none) (styS p T L m i (edGo p T L m i)) (m[i]?.getD .none).atts.length).k ≤ 5000 := by
      have : (edGo p T L m (i + 1)).k = (attGo p T L (m[i]?.getD .none) (styS p T L m i (edGo p T L m i)) (m[i]?.getD .none).atts.length).k := rfl
      omega
    show EdIn (attGo p T L (m[i]?.getD .none) (styS p T L m i (edGo p T L m i)) (m[i]?.getD .none).atts.length) _
    by_cases hs : styTx m i = true
    · have hk1 : (m[i]?.getD .none).kind = 1 := by
        unfold styTx at hs
        simp only [Bool.and_eq_true, decide_eq_true_eq] at hs
        exact hs.1.1.1
      have ha : (m[i]?.getD .none).atts = [] := hm.plain i (by omega)
      have h0 : attGo p T L (m[i]?.getD .none) (styS p T L m i (edGo p T L m i)) (m[i]?.getD .none).atts.length = styS p T L m i (edGo p T L m i) := by rw [ha]; rfl
      rw [h0]
      unfold styS
      rw [if_pos hs]
      have hX : Ord (tokX p m i) 0 ((m[i]?.getD .none).til - (m[i]?.getD .none).fr) := by
        have := inS_ord (cutB p ((m[i]?.getD .none).fr, (m[i]?.getD .none).til)) 0 (Nat.zero_le _)
        have hl : (cutB p ((m[i]?.getD .none).fr, (m[i]?.getD .none).til)).length = (m[i]?.getD .none).til - (m[i]?.getD .none).fr := by simp [cutB]; omega
        rwa [hl] at this
      have := styGo_in hT hL hX ih (tokX p m i).length (Nat.le_refl _)
      rw [if_neg (Nat.lt_irrefl _)] at this
      exact this.up (by omega)
    · have h0 : styS p T L m i (edGo p T L m i) = edGo p T L m i := by unfold styS; rw [if_neg hs]
      rw [h0] at hk5 ⊢
      have := attGo_in (p := p) hT hL hA1 (hm.fit.vals i) ih _ (Nat.le_refl _) hk5
      rw [if_neg (Nat.lt_irrefl _)] at this
      exact this.up hto
/-- Without turns nothing is turned. -/
theorem turnB_nil (x : Lnk) : turnB [] x = false := by
  unfold turnB thereB
  simp
theorem valGo_nil (v : Bs) (X : List (Nat × Nat)) (L : Nat → Lnk) : ∀ j, (valGo [] v X L j).many = 0
  | 0 => rfl
  | j + 1 => by
    unfold valGo
    rw [turnB_nil, if_neg (by decide)]
    exact valGo_nil v X L j
theorem styGo_nil (L : List Lnk) (q : Nat) (X : List (Nat × Nat)) (s : EdS) : ∀ j, (styGo [] L q X s j).n = s.n
  | 0 => rfl
  | j + 1 => by
    unfold styGo styE1
    rw [turnB_nil, if_neg (by decide)]
    exact styGo_nil L q X s j
theorem attGo_nil (p : Bs) (L : List Lnk) (t : Tk) (s : EdS) : ∀ k, (attGo p [] L t s k).n = s.n
  | 0 => rfl
  | k + 1 => by
    have ih := attGo_nil p L t s k
    have h2 : (attV [] L t k (attGo p [] L t s k).k).many = 0 := valGo_nil _ _ _ _
    unfold attGo attE1
    split
    · simp only; omega
    · exact ih
theorem edGo_nil (p : Bs) (L : List Lnk) (m : List Tk) : ∀ i, (edGo p [] L m i).n = 0
  | 0 => rfl
  | i + 1 => by
    have ih := edGo_nil p L m i
    have h1 : (styS p [] L m i (edGo p [] L m i)).n = (edGo p [] L m i).n := by
      unfold styS
      split
      · exact styGo_nil _ _ _ _ _
      · rfl
    show (attGo p [] L (m[i]?.getD .none) (styS p [] L m i (edGo p [] L m i)) (m[i]?.getD .none).atts.length).n = 0
    rw [attGo_nil, h1, ih]
theorem ordA_pos {r : List Atr} {a b : Nat} (h : OrdA r a b) : ∀ k, k < r.length → 0 < (r[k]?.getD Atr.none).fr := by
  induction r generalizing a with
  | nil => intro k hk; simp at hk
  | cons x r ih =>
    intro k hk
    cases k with
    | zero => have := h.1; simp; omega
    | succ k => simpa using ih h.2.2 k (by simpa using hk)
end Go.Proofs.YtjbabjfmcganpaaGreatDoor
/-
  PAGE: turns: the edits of a page. (WITH run_drawN.)
-/
set_option linter.unusedSimpArgs false
set_option linter.unusedVariables false
namespace Go.Proofs.YtjbabjfmcganpaaGreatDoor
open Go.Lw Go.RowKit
set_option maxRecDepth 100000
set_option maxHeartbeats 3000000

abbrev dfE : List D := [.lit (.int .i64 0), .lit (.int .i64 0), .lit (.string (bs []))]
@[simp] theorem getD_dfE (o : Option Edt) : (Option.map edtC o).getD dfE = edtC (o.getD .none) := by cases o <;> rfl
abbrev edO (E : List Edt) : Nat × O := (40000, .own 64 3 (true, dfE) (E.map edtC))
theorem edits_ok (p : Bs) (T : List Trn) (hT : trnE T = 0) (m : List Tk) (hm : TkIn p m) (hA : ∀ i, i < m.length → OrdA (m[i]?.getD .none).atts (m[i]?.getD .none).fr (m[i]?.getD .none).til)
    (hN : ∀ i, i + 1 < m.length → (m[i]?.getD .none).til ≤ (m[i + 1]?.getD .none).fr) (a b : Adr) (L : List Lnk) (hLe : L = allLs p a b m m.length) (h5 : L.length ≤ 5000) (hL : ∀ x ∈ L, LnkIn x) :
    FnMem Tryz.prog 20 [.bp 100000 0, .d (str p), .d (tokSu m), .d (lnkSl L)] (tur 100000 T 0) (.d (edtSl (edGo p T L m m.length).E)) (tur 100000 T (edGo p T L m m.length).n) := by
  refine fnMem Tryz.func20 rfl (by kernel_rfl) Tryz.ntmps20 _ rfl (by simp) fun C hc => ?_
  have h5' : (allLs p a b m m.length).length ≤ 5000 := by rw [← hLe]; exact h5
  have hin := edGo_in hT hL hm hA hN a b h5'
  have hkk := edGo_k p T L a b m
  have hst : ∀ i, edGo p T L m (i + 1) = attGo p T L (m[i]?.getD .none) (styS p T L m i (edGo p T L m i)) (m[i]?.getD .none).atts.length := fun _ => rfl
  have hkl2 : ∀ i, i < m.length → (edGo p T L m i).k + ((styLs p a b m i).length + (attsLs a b (m[i]?.getD .none) (m[i]?.getD .none).atts.length).length) ≤ L.length := fun i hi => by
    have h1 := allLs_mono p a b m (i + 1) m.length (by omega)
    have h4 : (allLs p a b m (i + 1)).length = (allLs p a b m i).length + ((styLs p a b m i).length + (attsLs a b (m[i]?.getD .none) (m[i]?.getD .none).atts.length).length) := by
      show (allLs p a b m i ++ (styLs p a b m i ++ attsLs a b (m[i]?.getD .none) (m[i]?.getD .none).atts.length)).length = _
      rw [List.length_append, List.length_append]
    rw [hkk i, hLe]
    omega
  obtain ⟨hpl, hf, hins, hpa⟩ := hm
  have hml := hf.len
  generalize hG : edGo p T L m = G at hin hkk hst hkl2 ⊢
  have hG0 : G 0 = ⟨[], 0, 0⟩ := by rw [← hG]; rfl
  clear hG
  repeat' (first | (first | refine Ya ?_ | refine Yb ?_ | refine Yc ?_ | refine Yd ?_ | refine Ye ?_ | refine Yf ?_ | refine Yg ?_ | refine Yh ?_ | refine Yi ?_ | refine Yj ?_ | refine Yk ?_ | refine Yl ?_ | refine Ym ?_ | refine Yn ?_ | refine Yo ?_ | refine Yp (h := ?_) | refine Yq ?_ | refine Yr ?_ | refine Ys ?_ | refine Zr hc (hk := ?_) | refine Zd hc (hk := ?_) | (refine Zc (ht := fun hb => ?_) (hf := fun hb => ?_) <;> (try simp at hb)) | fail) | (first | refine Zo hc (hk := ?_) | refine Zu hc (hk := ?_) | refine Ze hc (hk := ?_) | refine Zn hc (hk := ?_) | fail))
  refine ewp_loop (fun i : Nat => ⟨[(0, .bp 100000 0), (1, .d (str p)), (2, .d (tokSu m)), (3, .d (lnkFr L (G i).k)), (9, .os 40000 (G i).E.length), (22, .d (tokSu m)), (23, .d (int m.length)), (24, .d (int i))], tur 100000 T (G i).n ++ [edO (G i).E]⟩) (fun i => i ≤ m.length) (fun i => m.length - i) 0 (by simp) (by
    have e0 : lnkFr L 0 = lnkSl L := by simp
    simp only [hG0, e0]
    exact run_keepB [(9, none, 40000, 64, dfE)] [0, 1, 2, 3, 9, 22, 23, 24] [100000, 40000] (by simp; exact Gives.mk) (by simp; exact Gives.mk) (by simp; exact Gives.mk)) ?_
  intro i hi
  by_cases hil : i < m.length
  · have hS := styleText_ok m i hml hil
    have hinI := hin i hi
    rw [if_pos hil] at hinI
    have hsti := hst i
    obtain ⟨ht0, ht1⟩ := hins i hil
    have ht2 := hf.atts i
    have ht3 := hf.vals i
    have hpl2 := hpa i
    have hAi := hA i hil
    have hkli := hkl2 i hil
    have hI := inStyle_ok (cutB p ((m[i]?.getD Tk.none).fr, (m[i]?.getD Tk.none).til)) (Nat.le_trans (cutB_len _ _) hpl)
    have lcut : (cutB p ((m[i]?.getD Tk.none).fr, (m[i]?.getD Tk.none).til)).length = (m[i]?.getD Tk.none).til - (m[i]?.getD Tk.none).fr := by simp [cutB]; omega
    have hX := inS_ord (cutB p ((m[i]?.getD Tk.none).fr, (m[i]?.getD Tk.none).til)) 0 (Nat.zero_le _)
    rw [lcut] at hX
    have hsk := styLs_k p a b m i
    have hss : styS p T L m i (G i) = if styTx m i = true then styGo T L (m[i]?.getD .none).fr (tokX p m i) (G i) (tokX p m i).length else G i := rfl
    have hak := fun k => attGo_k p T L a b (m[i]?.getD .none) (styS p T L m i (G i)) k
    have hsk2 := styS_k p T L a b m i (G i)
    have hai : ∀ k, k ≤ (m[i]?.getD .none).atts.length → EdIn (styS p T L m i (G i)) (m[i]?.getD .none).fr → (attGo p T L (m[i]?.getD .none) (styS p T L m i (G i)) k).k ≤ 5000 → EdIn (attGo p T L (m[i]?.getD .none) (styS p T L m i (G i)) k) (if k < (m[i]?.getD .none).atts.length then ((m[i]?.getD .none).atts[k]?.getD .none).fr else (m[i]?.getD .none).til) := fun k hk hs h => attGo_in hT hL hAi ht3 hs k hk h
    unfold tokX at hsk hss
    by_cases hstx : styTx m i = true
    · rw [hstx] at hS
      rw [if_pos hstx] at hsk hss
      have hk1 : (m[i]?.getD Tk.none).kind = 1 := by
        unfold styTx at hstx
        simp only [Bool.and_eq_true, decide_eq_true_eq] at hstx
        exact hstx.1.1.1
      have hat0 : (m[i]?.getD Tk.none).atts = [] := hpl2 (by omega)
      have hsin := styGo_in hT hL hX hinI
      have hskj := styGo_k T L (m[i]?.getD Tk.none).fr (inS (cutB p ((m[i]?.getD Tk.none).fr, (m[i]?.getD Tk.none).til)) 0) (G i)
      have hsst : ∀ j, styGo T L (m[i]?.getD Tk.none).fr (inS (cutB p ((m[i]?.getD Tk.none).fr, (m[i]?.getD Tk.none).til)) 0) (G i) (j + 1) = styE1 T L (m[i]?.getD Tk.none).fr ((inS (cutB p ((m[i]?.getD Tk.none).fr, (m[i]?.getD Tk.none).til)) 0)[j]?.getD (0, 0)) (styGo T L (m[i]?.getD Tk.none).fr (inS (cutB p ((m[i]?.getD Tk.none).fr, (m[i]?.getD Tk.none).til)) 0) (G i) j) := fun _ => rfl
      repeat' (first | (first | refine Ya ?_ | refine Yb ?_ | refine Yc ?_ | refine Yd ?_ | refine Ye ?_ | refine Yf ?_ | refine Yg ?_ | refine Yh ?_ | refine Yi ?_ | refine Yj ?_ | refine Yk ?_ | refine Yl ?_ | refine Ym ?_ | refine Yn ?_ | refine Yo ?_ | refine Yp (h := ?_) | refine Yq ?_ | refine Yr ?_ | refine Ys ?_ | refine Zr hc (hk := ?_) | refine Zd hc (hk := ?_) | (refine Zc (ht := fun hb => ?_) (hf := fun hb => ?_) <;> (try simp at hb)) | fail) | (first | refine Zw hc (hf := by first | exact hS | exact hI) (hk := ?_) | refine Zq hc (hf := by first | exact hS | exact hI) (hk := ?_) | refine Zo hc (hk := ?_) | refine Zu hc (hk := ?_) | refine Ze hc (hk := ?_) | refine Zn hc (hk := ?_) | fail))
      all_goals try contradiction
      all_goals try (exfalso; omega)
      generalize hHe : styGo T L (m[i]?.getD Tk.none).fr (inS (cutB p ((m[i]?.getD Tk.none).fr, (m[i]?.getD Tk.none).til)) 0) (G i) = H at *
      have hH0 : H 0 = G i := by rw [← hHe]; rfl
      generalize inS (cutB p ((m[i]?.getD Tk.none).fr, (m[i]?.getD Tk.none).til)) 0 = X0 at *
      clear hS hI hHe
      generalize htt : m[i]?.getD Tk.none = t at *
      refine ewp_loop (fun j : Nat => ⟨[(0, .bp 100000 0), (1, .d (str p)), (2, .d (tokSu m)), (3, .d (lnkFr L (H j).k)), (9, .os 40000 (H j).E.length), (11, .bp 11 0), (22, .d (tokSu m)), (23, .d (int m.length)), (24, .d (int i)), (40, .d (spSl X0)), (41, .d (int X0.length)), (42, .d (int j))], (11, .box 96 [.d (int t.kind), .d (int t.fr), .d (int t.til), .d (str t.name), .d (attSl t.atts)]) :: (tur 100000 T (H j).n ++ [edO (H j).E])⟩) (fun j => j ≤ X0.length) (fun j => X0.length - j) 0 (by simp) (run_back [0, 1, 2, 3, 9, 11, 22, 23, 24, 40, 41, 42] [11, 100000, 40000] (by simp; exact Gives.mk) (by simp; exact Gives.mk) (by simp [hH0])) ?_
      intro j hj
      obtain ⟨e1, e2, e3, e4⟩ := hsin j hj
      have ek := hskj j
      have es := hsst j
      by_cases hjl : j < X0.length
      · have hx := hX.get j hjl
        have hTu := turned_ok T hT (L[(H j).k]?.getD .none) (lnkIn_get hL (H j).k) (H j).n (by omega)
        unfold styE1 at es
        generalize hHj : H j = s at *
        obtain ⟨sE, sk, sn⟩ := s
        simp only at e1 e2 e3 e4 ek es hTu ⊢
        generalize turnB T (L[sk]?.getD .none) = tb at hTu es
        generalize turnT T (L[sk]?.getD .none) = tt at hTu es
        cases tb with
        | false =>
          rw [if_neg (by decide)] at es
          simp only [Bool.false_eq_true, if_false] at hTu
          repeat' (first | (first | refine Ya ?_ | refine Yb ?_ | refine Yc ?_ | refine Yd ?_ | refine Ye ?_ | refine Yf ?_ | refine Yg ?_ | refine Yh ?_ | refine Yi ?_ | refine Yj ?_ | refine Yk ?_ | refine Yl ?_ | refine Ym ?_ | refine Yn ?_ | refine Yo ?_ | refine Yp (h := ?_) | refine Yq ?_ | refine Yr ?_ | refine Ys ?_ | refine Zr hc (hk := ?_) | refine Zd hc (hk := ?_) | (refine Zc (ht := fun hb => ?_) (hf := fun hb => ?_) <;> (try simp at hb)) | fail) | (first | refine Zo hc (hk := ?_) | refine Zu hc (hk := ?_) | refine Ze hc (hk := ?_) | fail) | (first | refine run_callM ([(100000, 100000)]) (hTu) hc (by simp; exact Gives.mk) (by simp; exact Gives.mk) (by simp; exact Gives.mk) (by simp; exact Gives.mk) (by simp; exact Gives.mk) rfl (by simp; exact Gives.mk) (by simp; exact Gives.mk) rfl (by simp) (by simp) (by simp; exact Gives.mk) (by simp; exact Gives.mk) ?_ | fail))
          all_goals try contradiction
          all_goals try (exfalso; omega)
          exact ⟨j + 1, by omega, by omega, run_back [0, 1, 2, 3, 9, 11, 22, 23, 24, 40, 41, 42] [11, 100000, 40000] (by simp; exact Gives.mk) (by simp; exact Gives.mk) (by simp [es, Nat.add_assoc, Nat.sub_sub])⟩
        | true =>
          rw [if_pos rfl] at es
          simp only [if_true] at hTu
          repeat' (first | (first | refine Ya ?_ | refine Yb ?_ | refine Yc ?_ | refine Yd ?_ | refine Ye ?_ | refine Yf ?_ | refine Yg ?_ | refine Yh ?_ | refine Yi ?_ | refine Yj ?_ | refine Yk ?_ | refine Yl ?_ | refine Ym ?_ | refine Yn ?_ | refine Yo ?_ | refine Yp (h := ?_) | refine Yq ?_ | refine Yr ?_ | refine Ys ?_ | refine Zr hc (hk := ?_) | refine Zd hc (hk := ?_) | (refine Zc (ht := fun hb => ?_) (hf := fun hb => ?_) <;> (try simp at hb)) | fail) | (first | refine Zo hc (hk := ?_) | refine Zu hc (hk := ?_) | refine Ze hc (hk := ?_) | fail) | (first | refine run_callM ([(100000, 100000)]) (hTu) hc (by simp; exact Gives.mk) (by simp; exact Gives.mk) (by simp; exact Gives.mk) (by simp; exact Gives.mk) (by simp; exact Gives.mk) rfl (by simp; exact Gives.mk) (by simp; exact Gives.mk) rfl (by simp) (by simp) (by simp; exact Gives.mk) (by simp; exact Gives.mk) ?_ | fail))
          all_goals try contradiction
          all_goals try (exfalso; omega)
          exact ⟨j + 1, by omega, by omega, run_back [0, 1, 2, 3, 9, 11, 22, 23, 24, 40, 41, 42] [11, 100000, 40000] (by simp; exact Gives.mk) (by simp; exact Gives.mk) (by simp [es, Nat.add_assoc, Nat.sub_sub])⟩
      · obtain rfl : j = X0.length := by omega
        rw [← hss] at *
        repeat' (first | (first | refine Ya ?_ | refine Yb ?_ | refine Yc ?_ | refine Yd ?_ | refine Ye ?_ | refine Yf ?_ | refine Yg ?_ | refine Yh ?_ | refine Yi ?_ | refine Yj ?_ | refine Yk ?_ | refine Yl ?_ | refine Ym ?_ | refine Yn ?_ | refine Yo ?_ | refine Yp (h := ?_) | refine Yq ?_ | refine Yr ?_ | refine Ys ?_ | refine Zr hc (hk := ?_) | refine Zd hc (hk := ?_) | (refine Zc (ht := fun hb => ?_) (hf := fun hb => ?_) <;> (try simp at hb)) | fail) | (first | refine Zo hc (hk := ?_) | refine Zu hc (hk := ?_) | refine Ze hc (hk := ?_) | fail))
        all_goals try (exfalso; omega)
        clear hsin hskj hsst
        have hat : t.atts.length = 0 := by rw [hat0]; rfl
        generalize hSe : styS p T L m i (G i) = S at *
        generalize hRe : attGo p T L t S = R at *
        have hR0 : R 0 = S := by rw [← hRe]; rfl
        have hRs : ∀ k, R (k + 1) = attE1 p T L t k (R k) := fun k => by rw [← hRe]; rfl
        refine ewp_loop (fun k : Nat => ⟨[(0, .bp 100000 0), (1, .d (str p)), (2, .d (tokSu m)), (3, .d (lnkFr L (R k).k)), (9, .os 40000 (R k).E.length), (11, .bp 11 0), (22, .d (tokSu m)), (23, .d (int m.length)), (24, .d (int i)), (77, .d (attSl t.atts)), (78, .d (int t.atts.length)), (79, .d (int k))], (11, .box 96 [.d (int t.kind), .d (int t.fr), .d (int t.til), .d (str t.name), .d (attSl t.atts)]) :: (tur 100000 T (R k).n ++ [edO (R k).E])⟩) (fun k => k ≤ t.atts.length) (fun k => t.atts.length - k) 0 (by simp) (run_back [0, 1, 2, 3, 9, 11, 22, 23, 24, 77, 78, 79] [11, 100000, 40000] (by simp; exact Gives.mk) (by simp; exact Gives.mk) (by simp [hR0])) ?_
        intro k hk
        have hRk := hak k
        by_cases hkl : k < t.atts.length
        · exfalso; omega
        · obtain rfl : k = t.atts.length := by omega
          have hfin : G (i + 1) = R t.atts.length := hsti
          repeat' (first | (first | refine Ya ?_ | refine Yb ?_ | refine Yc ?_ | refine Yd ?_ | refine Ye ?_ | refine Yf ?_ | refine Yg ?_ | refine Yh ?_ | refine Yi ?_ | refine Yj ?_ | refine Yk ?_ | refine Yl ?_ | refine Ym ?_ | refine Yn ?_ | refine Yo ?_ | refine Yp (h := ?_) | refine Yq ?_ | refine Yr ?_ | refine Ys ?_ | refine Zr hc (hk := ?_) | refine Zd hc (hk := ?_) | (refine Zc (ht := fun hb => ?_) (hf := fun hb => ?_) <;> (try simp at hb)) | fail) | (first | refine Zo hc (hk := ?_) | refine Zu hc (hk := ?_) | refine Ze hc (hk := ?_) | fail))
          all_goals try (exfalso; omega)
          exact ⟨i + 1, by omega, by omega, run_back [0, 1, 2, 3, 9, 22, 23, 24] [100000, 40000] (by simp; exact Gives.mk) (by simp; exact Gives.mk) (by simp [hfin])⟩
    · rw [Bool.eq_false_iff.2 hstx] at hS
      rw [if_neg hstx] at hsk hss
      repeat' (first | (first | refine Ya ?_ | refine Yb ?_ | refine Yc ?_ | refine Yd ?_ | refine Ye ?_ | refine Yf ?_ | refine Yg ?_ | refine Yh ?_ | refine Yi ?_ | refine Yj ?_ | refine Yk ?_ | refine Yl ?_ | refine Ym ?_ | refine Yn ?_ | refine Yo ?_ | refine Yp (h := ?_) | refine Yq ?_ | refine Yr ?_ | refine Ys ?_ | refine Zr hc (hk := ?_) | refine Zd hc (hk := ?_) | (refine Zc (ht := fun hb => ?_) (hf := fun hb => ?_) <;> (try simp at hb)) | fail) | (first | refine Zw hc (hf := by exact hS) (hk := ?_) | refine Zq hc (hf := by exact hS) (hk := ?_) | refine Zo hc (hk := ?_) | refine Zu hc (hk := ?_) | refine Ze hc (hk := ?_) | refine Zn hc (hk := ?_) | fail))
      all_goals try contradiction
      all_goals try (exfalso; omega)
      clear hS hI
      generalize htt : m[i]?.getD Tk.none = t at *
      rw [← hss] at hinI
      rw [← hss]
      generalize hSe : styS p T L m i (G i) = S at *
      generalize hRe : attGo p T L t S = R at *
      have hR0 : R 0 = S := by rw [← hRe]; rfl
      have hRs : ∀ k, R (k + 1) = attE1 p T L t k (R k) := fun k => by rw [← hRe]; rfl
      refine ewp_loop (fun k : Nat => ⟨[(0, .bp 100000 0), (1, .d (str p)), (2, .d (tokSu m)), (3, .d (lnkFr L (R k).k)), (9, .os 40000 (R k).E.length), (11, .bp 11 0), (22, .d (tokSu m)), (23, .d (int m.length)), (24, .d (int i)), (77, .d (attSl t.atts)), (78, .d (int t.atts.length)), (79, .d (int k))], (11, .box 96 [.d (int t.kind), .d (int t.fr), .d (int t.til), .d (str t.name), .d (attSl t.atts)]) :: (tur 100000 T (R k).n ++ [edO (R k).E])⟩) (fun k => k ≤ t.atts.length) (fun k => t.atts.length - k) 0 (by simp) (run_back [0, 1, 2, 3, 9, 11, 22, 23, 24, 77, 78, 79] [11, 100000, 40000] (by simp; exact Gives.mk) (by simp; exact Gives.mk) (by simp [hR0])) ?_
      intro k hk
      have hRk := hak k
      have hmo := attsLs_mono a b t hk
      have hRi := hai k hk hinI (by omega)
      by_cases hkl : k < t.atts.length
      · rw [if_pos hkl] at hRi
        have hmem : (t.atts[k]?.getD Atr.none) ∈ t.atts := by rw [List.getElem?_eq_getElem hkl]; exact List.getElem_mem hkl
        have hkd : t.kind = 2 := Classical.byContradiction fun e => by rw [hpl2 e] at hkl; simp at hkl
        have hav := ht3 _ hmem
        have hK := kindOf_ok t (t.atts[k]?.getD Atr.none).name (isStyle_ok t ht2 ht3)
        have hF := isFirst_ok t k ht2 hkl
        have hke2 : kindB t (t.atts[k]?.getD Atr.none).name ≤ 9 := kindF_le (isStyB t.atts) (t.atts[k]?.getD Atr.none).name t.name
        have hSp := spans_ok (kindB t (t.atts[k]?.getD Atr.none).name) (t.atts[k]?.getD Atr.none).val hke2 hav
        have hO := spansF_ord (kindB t (t.atts[k]?.getD Atr.none).name) (t.atts[k]?.getD Atr.none).val
        have hRn := hRs k
        have hak1 := hak (k + 1)
        have hmo1 := attsLs_mono a b t (show k + 1 ≤ t.atts.length by omega)
        have hne : R (k + 1) = if kindB t (t.atts[k]?.getD Atr.none).name ≠ 0 ∧ firstB t.atts k = true then ⟨if (attV T L t k (R k).k).any = true then (R k).E ++ [⟨(t.atts[k]?.getD .none).fr, (t.atts[k]?.getD .none).til, writR p (t.atts[k]?.getD .none).fr ((attV T L t k (R k).k).out ++ (t.atts[k]?.getD .none).val.drop (attV T L t k (R k).k).fr)⟩] else (R k).E, (R k).k + (attX t k).length, (R k).n + (attV T L t k (R k).k).many⟩ else R k := by
          rw [hRn]
          unfold attE1 hasL
          simp only [hkd, Bool.and_eq_true, decide_eq_true_eq, true_and]
        clear hRn
        obtain ⟨e1, e2, e3, e4⟩ := hRi
        have hOA := Ord.get hAi.ord k (by simpa using hkl)
        rw [List.getElem?_map, List.getElem?_eq_getElem hkl] at hOA
        have hOB : 0 < (t.atts[k]?.getD .none).fr ∧ (t.atts[k]?.getD .none).fr ≤ (t.atts[k]?.getD .none).til ∧ (t.atts[k]?.getD .none).til ≤ t.til := by
          have h0 := ordA_pos hAi k hkl
          rw [List.getElem?_eq_getElem hkl] at h0 ⊢
          exact ⟨h0, hOA.2⟩
        have hV0 : kindB t (t.atts[k]?.getD Atr.none).name ≠ 0 ∧ firstB t.atts k = true → (R k).k + (spansF (kindB t (t.atts[k]?.getD Atr.none).name) (t.atts[k]?.getD Atr.none).val).length ≤ L.length := fun h => by
          rw [if_pos h] at hne
          rw [hne] at hak1
          unfold attX at hak1
          simp only at hak1
          omega
        have hvi := attV_in hT hL t k (R k).k
        have hvd : attV T L t k (R k).k = valGo T (t.atts[k]?.getD .none).val (spansF (kindB t (t.atts[k]?.getD Atr.none).name) (t.atts[k]?.getD Atr.none).val) (fun j => L[(R k).k + j]?.getD .none) (spansF (kindB t (t.atts[k]?.getD Atr.none).name) (t.atts[k]?.getD Atr.none).val).length := rfl
        have hax : attX t k = spansF (kindB t (t.atts[k]?.getD Atr.none).name) (t.atts[k]?.getD Atr.none).val := rfl
        generalize attV T L t k (R k).k = W at hne hvi hvd
        rw [hax] at hne hvi
        clear hax
        generalize kindB t (t.atts[k]?.getD Atr.none).name = kd at hK hke2 hSp hO hne hV0 hvi hvd
        generalize firstB t.atts k = fb at hF hne hV0
        generalize hX2 : spansF kd (t.atts[k]?.getD Atr.none).val = X at hSp hO hne hV0 hvi hvd
        by_cases hk0 : kd = 0
        · rw [if_neg (fun h => h.1 hk0)] at hne
          repeat' (first | (first | refine Ya ?_ | refine Yb ?_ | refine Yc ?_ | refine Yd ?_ | refine Ye ?_ | refine Yf ?_ | refine Yg ?_ | refine Yh ?_ | refine Yi ?_ | refine Yj ?_ | refine Yk ?_ | refine Yl ?_ | refine Ym ?_ | refine Yn ?_ | refine Yo ?_ | refine Yp (h := ?_) | refine Yq ?_ | refine Yr ?_ | refine Ys ?_ | refine Zr hc (hk := ?_) | refine Zd hc (hk := ?_) | (refine Zc (ht := fun hb => ?_) (hf := fun hb => ?_) <;> (try simp at hb)) | fail) | (first | refine Zw hc (hf := by first | exact hK | exact hF) (hk := ?_) | refine Zq hc (hf := by first | exact hK | exact hF) (hk := ?_) | refine Zo hc (hk := ?_) | refine Zu hc (hk := ?_) | refine Ze hc (hk := ?_) | fail))
          all_goals try contradiction
          all_goals try (exfalso; omega)
          exact ⟨k + 1, by omega, by omega, run_back [0, 1, 2, 3, 9, 11, 22, 23, 24, 77, 78, 79] [11, 100000, 40000] (by simp; exact Gives.mk) (by simp; exact Gives.mk) (by simp [hne])⟩
        cases fb with
        | false =>
          rw [if_neg (fun h => by cases h.2)] at hne
          repeat' (first | (first | refine Ya ?_ | refine Yb ?_ | refine Yc ?_ | refine Yd ?_ | refine Ye ?_ | refine Yf ?_ | refine Yg ?_ | refine Yh ?_ | refine Yi ?_ | refine Yj ?_ | refine Yk ?_ | refine Yl ?_ | refine Ym ?_ | refine Yn ?_ | refine Yo ?_ | refine Yp (h := ?_) | refine Yq ?_ | refine Yr ?_ | refine Ys ?_ | refine Zr hc (hk := ?_) | refine Zd hc (hk := ?_) | (refine Zc (ht := fun hb => ?_) (hf := fun hb => ?_) <;> (try simp at hb)) | fail) | (first | refine Zw hc (hf := by first | exact hK | exact hF) (hk := ?_) | refine Zq hc (hf := by first | exact hK | exact hF) (hk := ?_) | refine Zo hc (hk := ?_) | refine Zu hc (hk := ?_) | refine Ze hc (hk := ?_) | fail))
          all_goals try contradiction
          all_goals try (exfalso; omega)
          exact ⟨k + 1, by omega, by omega, run_back [0, 1, 2, 3, 9, 11, 22, 23, 24, 77, 78, 79] [11, 100000, 40000] (by simp; exact Gives.mk) (by simp; exact Gives.mk) (by simp [hne])⟩
        | true =>
          rw [if_pos ⟨hk0, rfl⟩] at hne
          have hV1 := hV0 ⟨hk0, rfl⟩
          have hVa := pgVal_ok T hT (t.atts[k]?.getD .none).val hav X hO L (R k).k hV1 h5 hL (R k).n (by omega)
          rw [← hvd] at hVa
          clear hvd hV0 hak hai hmo hmo1 hRs
          generalize hRke : R k = r at *
          obtain ⟨rE, rk, rn⟩ := r
          obtain ⟨wo, wf, wa, wn⟩ := W
          simp only at e1 e2 e3 e4 hne hVa hvi hV1 hRk ⊢
          obtain ⟨v1, v2, v3, v4, v5⟩ := hvi
          have hW := written_ok p (t.atts[k]?.getD .none).fr (t.atts[k]?.getD .none).til hOB.1 (by omega) hpl (wo ++ (t.atts[k]?.getD .none).val.drop wf) (by simp only [List.length_append, List.length_drop]; omega)
          cases wa with
          | false =>
            rw [if_neg (by decide)] at hne
            repeat' (first | (first | refine Ya ?_ | refine Yb ?_ | refine Yc ?_ | refine Yd ?_ | refine Ye ?_ | refine Yf ?_ | refine Yg ?_ | refine Yh ?_ | refine Yi ?_ | refine Yj ?_ | refine Yk ?_ | refine Yl ?_ | refine Ym ?_ | refine Yn ?_ | refine Yo ?_ | refine Yp (h := ?_) | refine Yq ?_ | refine Yr ?_ | refine Ys ?_ | refine Zr hc (hk := ?_) | refine Zd hc (hk := ?_) | (refine Zc (ht := fun hb => ?_) (hf := fun hb => ?_) <;> (try simp at hb)) | fail) | (first | refine Zw hc (hf := by first | exact hK | exact hF | exact hSp) (hk := ?_) | refine Zq hc (hf := by first | exact hK | exact hF | exact hSp) (hk := ?_) | refine Zo hc (hk := ?_) | refine Zu hc (hk := ?_) | refine Ze hc (hk := ?_) | fail) | (first | refine run_callM ([(100000, 100000)]) (hVa) hc (by simp; exact Gives.mk) (by simp; exact Gives.mk) (by simp; exact Gives.mk) (by simp; exact Gives.mk) (by simp; exact Gives.mk) rfl (by simp; exact Gives.mk) (by simp; exact Gives.mk) rfl (by simp) (by simp) (by simp; exact Gives.mk) (by simp; exact Gives.mk) ?_ | fail))
            all_goals try contradiction
            all_goals try (exfalso; omega)
            exact ⟨k + 1, by omega, by omega, run_back [0, 1, 2, 3, 9, 11, 22, 23, 24, 77, 78, 79] [11, 100000, 40000] (by simp; exact Gives.mk) (by simp; exact Gives.mk) (by simp [hne, Nat.add_assoc, Nat.sub_sub])⟩
          | true =>
            rw [if_pos rfl] at hne
            repeat' (first | (first | refine Ya ?_ | refine Yb ?_ | refine Yc ?_ | refine Yd ?_ | refine Ye ?_ | refine Yf ?_ | refine Yg ?_ | refine Yh ?_ | refine Yi ?_ | refine Yj ?_ | refine Yk ?_ | refine Yl ?_ | refine Ym ?_ | refine Yn ?_ | refine Yo ?_ | refine Yp (h := ?_) | refine Yq ?_ | refine Yr ?_ | refine Ys ?_ | refine Zr hc (hk := ?_) | refine Zd hc (hk := ?_) | (refine Zc (ht := fun hb => ?_) (hf := fun hb => ?_) <;> (try simp at hb)) | fail) | (first | refine Zw hc (hf := by first | exact hK | exact hF | exact hSp) (hk := ?_) | refine Zq hc (hf := by first | exact hK | exact hF | exact hSp) (hk := ?_) | refine Zo hc (hk := ?_) | refine Zu hc (hk := ?_) | refine Ze hc (hk := ?_) | fail) | (first | refine run_callM ([(100000, 100000)]) (hVa) hc (by simp; exact Gives.mk) (by simp; exact Gives.mk) (by simp; exact Gives.mk) (by simp; exact Gives.mk) (by simp; exact Gives.mk) rfl (by simp; exact Gives.mk) (by simp; exact Gives.mk) rfl (by simp) (by simp) (by simp; exact Gives.mk) (by simp; exact Gives.mk) ?_ | fail))
            all_goals try contradiction
            all_goals try (exfalso; omega)
            generalize hwr : writR p (t.atts[k]?.getD .none).fr (wo ++ (t.atts[k]?.getD .none).val.drop wf) = wr at hne hW
            refine ewp_le (run_keep [0, 1, 2, 3, 9, 11, 17, 19, 20, 22, 23, 24, 77, 78, 79] [11, 17, 100000, 40000] (by simp; exact Gives.mk) (by simp; exact Gives.mk)) ?_
            clear hVa hSp hK hF e1 e4 v1 hin hkk hst hkl2
            (apply run_drawAny 12 hc (by kernel_rfl) rfl; (focus (refine run_anyM 0 hc rfl (by kernel_rfl) rfl (by first | exact .inl rfl | exact .inr rfl) (by simp; exact Gives.mk) (by simp) (by simp; exact Gives.mk) ?_; refine run_anyP 1 hc rfl (by kernel_rfl) rfl (by simp; exact Gives.mk) (by first | exact True.intro | omega | (simp; done) | (simp; omega) | (simp at *; omega)) (by simp) (by simp) (by simp; exact Gives.mk) ?_; refine run_anyM 3 hc rfl (by kernel_rfl) rfl (by first | exact .inl rfl | exact .inr rfl) (by simp; exact Gives.mk) (by simp) (by simp; exact Gives.mk) ?_; refine run_anyP 4 hc rfl (by kernel_rfl) rfl (by simp; exact Gives.mk) (by first | exact True.intro | omega | (simp; done) | (simp; omega) | (simp at *; omega)) (by simp) (by simp) (by simp; exact Gives.mk) ?_; refine run_anyM 6 hc rfl (by kernel_rfl) rfl (by first | exact .inl rfl | exact .inr rfl) (by simp; exact Gives.mk) (by simp) (by simp; exact Gives.mk) ?_; refine anyW_all [2, 5] (by kernel_rfl) rfl ?_; refine ⟨?_, ?_⟩; (focus (refine run_stepW hc rfl (by simp; exact Ends.go) (by first | exact True.intro | omega | (simp; done) | (simp; omega) | (simp at *; omega)) ?q220; refine anyW_all [5] (by kernel_rfl) rfl ?nq220; (focus (refine run_stepW hc rfl (by simp; exact Ends.go) (by first | exact True.intro | omega | (simp; done) | (simp; omega) | (simp at *; omega)) ?q221; refine anyW_all [7] (by kernel_rfl) rfl ?nq221; (focus (refine run_stepC hc rfl rfl (by simp; exact Gives.mk) (by simp; exact Gives.mk) (by simp; exact Gives.mk) (by simp; exact Gives.mk) (by simp; exact Gives.mk) (fun _ => hW) (by simp) (by simp) ?q222; refine run_anyP 8 hc rfl (by kernel_rfl) rfl (by simp; exact Gives.mk) (by first | exact True.intro | omega | (simp; done) | (simp; omega) | (simp at *; omega)) (by simp) (by simp) (by simp; exact Gives.mk) ?nq222; refine anyW_all [9] (by kernel_rfl) rfl ?_; (focus (refine run_stepW hc rfl (by simp; exact Ends.go) (by first | exact True.intro | omega | (simp; done) | (simp; omega) | (simp at *; omega)) ?q223; refine anyW_all [10] (by kernel_rfl) rfl ?nq223; (focus (refine run_stepW hc rfl (by simp; exact Ends.go) (by first | exact True.intro | omega | (simp; done) | (simp; omega) | (simp at *; omega)) ?q224; refine run_anyM 11 hc rfl (by kernel_rfl) rfl (by first | exact .inl rfl | exact .inr rfl) (by simp; exact Gives.mk) (by simp) (by simp; exact Gives.mk) ?nq224; refine anyW_done (by kernel_rfl) ?_; exact run_keep [0, 1, 2, 3, 9, 11, 19, 22, 23, 24, 77, 78, 79] [11, 100000, 40000] (by simp; try exact Gives.mk) (by simp; try exact Gives.mk))))))))))); (focus (refine run_stepW hc rfl (by simp; exact Ends.go) (by first | exact True.intro | omega | (simp; done) | (simp; omega) | (simp at *; omega)) ?q225; refine anyW_all [2, 7] (by kernel_rfl) rfl ?nq225; refine ⟨?_, ?_⟩; (focus (refine run_stepW hc rfl (by simp; exact Ends.go) (by first | exact True.intro | omega | (simp; done) | (simp; omega) | (simp at *; omega)) ?_; exact anyW_le (run_back [0, 1, 2, 3, 9, 11, 17, 19, 20, 22, 23, 24, 77, 78, 79, 115, 116, 118, 119, 121, 117, 120] [11, 17, 100000, 40000] (by simp; exact Gives.mk) (by simp; exact Gives.mk) (by simp)) ?q221)); (focus (refine run_stepC hc rfl rfl (by simp; exact Gives.mk) (by simp; exact Gives.mk) (by simp; exact Gives.mk) (by simp; exact Gives.mk) (by simp; exact Gives.mk) (fun _ => hW) (by simp) (by simp) ?q226; refine anyW_all [2] (by kernel_rfl) rfl ?nq226; (focus (refine run_stepW hc rfl (by simp; exact Ends.go) (by first | exact True.intro | omega | (simp; done) | (simp; omega) | (simp at *; omega)) ?_; exact anyW_le (run_back [0, 1, 2, 3, 9, 11, 17, 19, 20, 22, 23, 24, 77, 78, 79, 115, 116, 118, 119, 121, 117, 120, 122] [11, 17, 100000, 40000] (by simp; exact Gives.mk) (by simp; exact Gives.mk) (by simp)) ?q222)))))))))
            repeat' (first | (first | refine Ya ?_ | refine Yb ?_ | refine Yc ?_ | refine Yd ?_ | refine Ye ?_ | refine Yf ?_ | refine Yg ?_ | refine Yh ?_ | refine Yi ?_ | refine Yj ?_ | refine Yk ?_ | refine Yl ?_ | refine Ym ?_ | refine Yn ?_ | refine Yo ?_ | refine Yp (h := ?_) | refine Yq ?_ | refine Yr ?_ | refine Ys ?_ | refine Zr hc (hk := ?_) | refine Zd hc (hk := ?_) | (refine Zc (ht := fun hb => ?_) (hf := fun hb => ?_) <;> (try simp at hb)) | fail) | (first | refine Zo hc (hk := ?_) | refine Zu hc (hk := ?_) | refine Ze hc (hk := ?_) | fail))
            exact ⟨k + 1, by omega, by omega, run_back [0, 1, 2, 3, 9, 11, 22, 23, 24, 77, 78, 79] [11, 100000, 40000] (by simp; exact Gives.mk) (by simp; exact Gives.mk) (by simp [hne, Nat.add_assoc, Nat.sub_sub])⟩
      · obtain rfl : k = t.atts.length := by omega
        have hfin : G (i + 1) = R t.atts.length := hsti
        repeat' (first | (first | refine Ya ?_ | refine Yb ?_ | refine Yc ?_ | refine Yd ?_ | refine Ye ?_ | refine Yf ?_ | refine Yg ?_ | refine Yh ?_ | refine Yi ?_ | refine Yj ?_ | refine Yk ?_ | refine Yl ?_ | refine Ym ?_ | refine Yn ?_ | refine Yo ?_ | refine Yp (h := ?_) | refine Yq ?_ | refine Yr ?_ | refine Ys ?_ | refine Zr hc (hk := ?_) | refine Zd hc (hk := ?_) | (refine Zc (ht := fun hb => ?_) (hf := fun hb => ?_) <;> (try simp at hb)) | fail) | (first | refine Zo hc (hk := ?_) | refine Zu hc (hk := ?_) | refine Ze hc (hk := ?_) | fail))
        all_goals try (exfalso; omega)
        exact ⟨i + 1, by omega, by omega, run_back [0, 1, 2, 3, 9, 22, 23, 24] [100000, 40000] (by simp; exact Gives.mk) (by simp; exact Gives.mk) (by simp [hfin])⟩
  · obtain rfl : i = m.length := by omega
    generalize hgj : G m.length = s at *
    obtain ⟨sE, sk, sn⟩ := s
    (first | refine run_sealW 40000 hc (by simp; exact Gives.mk) (by simp) ?_ | refine run_seal 40000 hc (by simp; exact Gives.mk) (by simp) ?_)
    repeat' (first | (first | refine Ya ?_ | refine Yb ?_ | refine Yc ?_ | refine Yd ?_ | refine Ye ?_ | refine Yf ?_ | refine Yg ?_ | refine Yh ?_ | refine Yi ?_ | refine Yj ?_ | refine Yk ?_ | refine Yl ?_ | refine Ym ?_ | refine Yn ?_ | refine Yo ?_ | refine Yp (h := ?_) | refine Yq ?_ | refine Yr ?_ | refine Ys ?_ | refine Zr hc (hk := ?_) | refine Zd hc (hk := ?_) | (refine Zc (ht := fun hb => ?_) (hf := fun hb => ?_) <;> (try simp at hb)) | fail) | (first | refine Zo hc (hk := ?_) | refine Zu hc (hk := ?_) | refine Ze hc (hk := ?_) | fail))
    all_goals try (exfalso; omega)
    (refine run_leaveM [100000] hc (le_end rfl) (by simp; exact Gives.mk) (by simp; exact Gives.mk) (by first | (simp; done) | (simp; omega)) ?_)
    simp
end Go.Proofs.YtjbabjfmcganpaaGreatDoor
