/-
  PAGE, IN PLAIN LEAN: where the links of a page stand: in order, within the page; what their values mean.
-/
import Derived.Test.YtjbabjfmcganpaaGreatDoorPgLie
import Derived.Test.YtjbabjfmcganpaaGreatDoorTxC
import Derived.Test.YtjbabjfmcganpaaGreatDoorLkA
import Derived.Lib.FieldsP
import Derived.Test.YtjbabjfmcganpaaGreatDoorLwFlt
import Derived.Test.YtjbabjfmcganpaaGreatDoorLibS
import Derived.Shelf.Strings.FieldsFuncGrows
set_option linter.unusedSimpArgs false
set_option linter.unusedVariables false
namespace Go.Proofs.YtjbabjfmcganpaaGreatDoor
open Go.Lw
set_option maxRecDepth 100000
set_option maxHeartbeats 1000000

/-- Spans in their order, between two places. -/
def Ord : List (Nat × Nat) → Nat → Nat → Prop
  | [], a, b => a ≤ b
  | x :: r, a, b => a ≤ x.1 ∧ x.1 ≤ x.2 ∧ Ord r x.2 b
theorem Ord.le {r : List (Nat × Nat)} {a b : Nat} (h : Ord r a b) : a ≤ b := by
  induction r generalizing a with
  | nil => exact h
  | cons x r ih => have := ih h.2.2; have := h.1; have := h.2.1; omega
theorem Ord.mono {r : List (Nat × Nat)} {a a' b : Nat} (h : Ord r a b) (ha : a' ≤ a) : Ord r a' b := by
  cases r with
  | nil => exact Nat.le_trans ha h
  | cons x r => exact ⟨Nat.le_trans ha h.1, h.2⟩
theorem Ord.append {r s : List (Nat × Nat)} {a b c : Nat} (h : Ord r a b) (h2 : Ord s b c) : Ord (r ++ s) a c := by
  induction r generalizing a with
  | nil => exact h2.mono h
  | cons x r ih => exact ⟨h.1, h.2.1, ih h.2.2⟩
theorem Ord.get {r : List (Nat × Nat)} {a b : Nat} (h : Ord r a b) : ∀ i, i < r.length → a ≤ (r[i]?.getD (0, 0)).1 ∧ (r[i]?.getD (0, 0)).1 ≤ (r[i]?.getD (0, 0)).2 ∧ (r[i]?.getD (0, 0)).2 ≤ b := by
  induction r generalizing a with
  | nil => intro i hi; simp at hi
  | cons x r ih =>
    intro i hi
    have hl := h.2.2.le
    have h1 := h.1
    have h2 := h.2.1
    cases i with
    | zero => simp; omega
    | succ i =>
      have := ih h.2.2 i (by simp at hi; omega)
      simp; omega
theorem Ord.next {r : List (Nat × Nat)} {a b : Nat} (h : Ord r a b) : ∀ i, i + 1 < r.length → (r[i]?.getD (0, 0)).2 ≤ (r[i + 1]?.getD (0, 0)).1 := by
  induction r generalizing a with
  | nil => intro i hi; simp at hi
  | cons x r ih =>
    intro i hi
    cases i with
    | zero =>
      cases r with
      | nil => simp at hi
      | cons y r => simpa using h.2.2.1
    | succ i => simpa using ih h.2.2 i (by simp at hi; omega)
theorem Ord.take {r : List (Nat × Nat)} {a b : Nat} (h : Ord r a b) (j : Nat) (hj : j < r.length) : Ord (r.take j) a (r[j]?.getD (0, 0)).1 := by
  induction r generalizing a j with
  | nil => simp at hj
  | cons x r ih =>
    cases j with
    | zero => simpa [Ord] using h.1
    | succ j => simpa [Ord] using ⟨h.1, h.2.1, ih h.2.2 j (by simp at hj; omega)⟩
theorem Ord.sub {r s : List (Nat × Nat)} {a b : Nat} (hs : s.Sublist r) (h : Ord r a b) : Ord s a b := by
  induction hs generalizing a with
  | slnil => exact h
  | cons x hs ih =>
    have h1 := h.1
    have h2 := h.2.1
    exact (ih h.2.2).mono (by omega)
  | cons_cons x hs ih => exact ⟨h.1, h.2.1, ih h.2.2⟩
theorem Ord.add {r : List (Nat × Nat)} {a b : Nat} (h : Ord r a b) (k : Nat) : Ord (r.map fun x => (k + x.1, k + x.2)) (k + a) (k + b) := by
  induction r generalizing a with
  | nil => have : a ≤ b := h; show k + a ≤ k + b; omega
  | cons x r ih => have h1 := h.1; have h2 := h.2.1; exact ⟨by simp; omega, by simp; omega, ih h.2.2⟩

/-! Styles. -/
theorem quo_in {l : Bs} {i : Nat} {x : Nat × Nat} (h : (quo l i).1 = some x) : i ≤ x.1 ∧ x.1 ≤ x.2 ∧ x.2 ≤ (quo l i).2 := by
  have h1 := skip_ge qB l (i + 1)
  unfold quo at h ⊢
  split at h
  · rename_i hq
    rw [if_pos hq]
    split at h
    · rename_i hc
      rw [if_pos hc]
      cases h
      simp; omega
    · cases h
  · cases h
theorem urlP_in {l : Bs} {i : Nat} {x : Nat × Nat} (h : (urlP l i).1 = some x) : i ≤ x.1 ∧ x.1 ≤ x.2 ∧ x.2 ≤ (urlP l i).2 := by
  have h1 := skip_ge isBl l (i + 4)
  have hq := fun y => quo_in (l := l) (i := skip isBl l (i + 4)) (x := y)
  have hle : ∀ e, (quo l (skip isBl l (i + 4))) = (none, e) → skip isBl l (i + 4) ≤ e := by
    intro e he
    have := skip_ge qB l (skip isBl l (i + 4) + 1)
    unfold quo at he
    split at he
    · split at he
      · cases he
      · cases he; omega
    · cases he; omega
  unfold urlP at h ⊢
  split at h
  · rename_i hw
    rw [if_pos hw]
    generalize quo l (skip isBl l (i + 4)) = q at hq hle h ⊢
    obtain ⟨_ | y, e⟩ := q
    · simp only at h ⊢
      have := hle e rfl
      have h3 := skip_ge uB l e
      have h5 := skip_ge isBl l (skip uB l e)
      split at h
      · cases h
      · rename_i n1
        rw [if_neg n1]
        split at h
        · cases h
        · rename_i n2
          rw [if_neg n2]
          split at h
          · rename_i n3
            rw [if_pos n3]
            cases h
            simp; omega
          · cases h
    · simp only at h ⊢
      have := hq y rfl
      have h5 := skip_ge isBl l e
      simp only at this
      split at h
      · rename_i n1
        rw [if_pos n1]
        cases h
        simp; omega
      · cases h
  · cases h
theorem impP_in {l : Bs} {i : Nat} {x : Nat × Nat} (h : (impP l i).1 = some x) : i ≤ x.1 ∧ x.1 ≤ x.2 ∧ x.2 ≤ (impP l i).2 := by
  have h1 := skip_ge isBl l (i + 7)
  unfold impP at h ⊢
  split at h
  · rename_i hw
    rw [if_pos hw]
    split at h
    · cases h
    · rename_i n
      rw [if_neg n]
      have := quo_in h
      omega
  · cases h
theorem sty_in {l : Bs} {i : Nat} {x : (Nat × Nat) × Nat} (h : sty l i = some x) : i ≤ x.1.1 ∧ x.1.1 ≤ x.1.2 ∧ x.1.2 ≤ x.2 := by
  unfold sty at h
  split at h
  · rename_i y hy
    cases h
    exact urlP_in hy
  · split at h
    · rename_i y hy
      cases h
      exact impP_in hy
    · cases h
theorem inS_ord (l : Bs) (i : Nat) (hi : i ≤ l.length) : Ord (inS l i) i l.length := by
  by_cases h : i < l.length
  · cases hs : sty l i with
    | some x =>
      have h1 := sty_le hi hs
      have h2 := sty_in hs
      rw [inS_some h hs]
      exact ⟨h2.1, h2.2.1, (inS_ord l x.2 h1.2).mono h2.2.2⟩
    | none =>
      rw [inS_none h hs]
      exact (inS_ord l (i + 1) (by omega)).mono (by omega)
  · rw [inS_end h]; exact hi
termination_by l.length - i
/-! Sets of images. -/
theorem sp_ord (l : Bs) (a n : Nat) (h : a ≤ n) : Ord (sp l a n) a n := by
  have h1 := bsk_ge (p := isBl) (l := l) h
  have h2 := bsk_ge (p := nBl) (l := l) h1.2
  unfold sp
  split
  · exact ⟨h1.1, h2.1, h2.2⟩
  · exact h
theorem img_ord (l : Bs) : ∀ k, k ≤ (Lib.split l [44]).length → ∃ e, Ord (img l (Lib.split l [44]) k) 0 e ∧ e ≤ offs (Lib.split l [44]) k ∧ e ≤ l.length
  | 0, _ => ⟨0, Nat.le_refl 0, Nat.zero_le _, Nat.zero_le _⟩
  | k + 1, hk => by
    obtain ⟨e, h1, h2, h3⟩ := img_ord l k (by omega)
    have h4 := offs_next (Lib.split l [44]) k (by omega)
    have h5 := split_offs l 44 k (by omega)
    refine ⟨offs (Lib.split l [44]) k + ((Lib.split l [44])[k]?.getD []).length, ?_, by omega, h5⟩
    show Ord (img l (Lib.split l [44]) k ++ _) _ _
    exact h1.append ((sp_ord l _ _ (by omega)).mono h2)
def imgs (l : Bs) : List (Nat × Nat) := img l (Lib.split l [44]) (Lib.split l [44]).length
theorem imgs_ord (l : Bs) : Ord (imgs l) 0 l.length := by
  obtain ⟨e, h1, h2, h3⟩ := img_ord l _ (Nat.le_refl _)
  have := h1.append (show Ord [] e l.length from h3)
  rwa [List.append_nil] at this
theorem imgs_len (l : Bs) : (imgs l).length ≤ l.length + 2 := Nat.le_trans (img_len l _ _) (split_len l 44)

/-! Attributes. -/
def OrdA : List Atr → Nat → Nat → Prop
  | [], a, b => a ≤ b
  | x :: r, a, b => a < x.fr ∧ x.fr ≤ x.til ∧ OrdA r x.til b
theorem OrdA.mono {r : List Atr} {a a' b b' : Nat} (h : OrdA r a b) (ha : a' ≤ a) (hb : b ≤ b') : OrdA r a' b' := by
  induction r generalizing a a' with
  | nil => exact Nat.le_trans ha (Nat.le_trans h hb)
  | cons x r ih => exact ⟨Nat.lt_of_le_of_lt ha h.1, h.2.1, ih h.2.2 (Nat.le_refl _)⟩
theorem OrdA.ord {r : List Atr} {a b : Nat} (h : OrdA r a b) : Ord (r.map fun x => (x.fr, x.til)) a b := by
  induction r generalizing a with
  | nil => exact h
  | cons x r ih => exact ⟨Nat.le_of_lt h.1, h.2.1, ih h.2.2⟩
def ValA (l : Bs) (x : Atr) : Prop := (x.has = true → x.val = meant ((l.take x.til).drop x.fr)) ∧ (x.has = false → x.val = [])
theorem att_in {l : Bs} {i : Nat} (h : (att l i).2.1 = true) (hi : i ≤ l.length) : i < (att l i).1.fr ∧ ValA l (att l i).1 := by
  have h1 := skip_ge isBl l i
  have h2 := skip_le isBl l i hi
  unfold att at h ⊢
  generalize skip isBl l i = b at h h1 h2 ⊢
  have h3 := nm_ge inNameB l b
  have h4 := nm_le inNameB l b h2
  generalize nm inNameB l b = e at h h3 h4 ⊢
  split at h
  · cases h
  rename_i n1
  rw [if_neg n1]
  split at h
  · cases h
  rename_i n2
  rw [if_neg n2]
  split at h
  · rename_i n3
    rw [if_pos n3]
    have hlt : e < l.length := (List.getElem?_eq_some_iff.1 n3).1
    split at h
    · rename_i n4
      rw [if_pos n4]
      have h5 := (val_le l (e + 1) (by omega)).2.2 n4
      exact ⟨by simp; omega, fun _ => rfl, fun h => by cases h⟩
    · cases h
  · rename_i n3
    rw [if_neg n3]
    exact ⟨by simp; omega, fun h => (by cases h), fun _ => rfl⟩
theorem atts_in (l : Bs) (i : Nat) (hi : i ≤ l.length) : OrdA (atts l i).1 i (atts l i).2 ∧ ∀ a ∈ (atts l i).1, ValA l a := by
  by_cases h : (att l i).2.1 = true
  · have h1 := att_le l i hi
    have h2 := h1.2.2 h
    have h3 := atts_in l (att l i).2.2 h1.1
    have h4 := att_in h hi
    rw [atts_yes hi h]
    refine ⟨⟨h4.1, h2.2.2.1, h3.1.mono h2.2.2.2.1 (Nat.le_refl _)⟩, fun a ha => ?_⟩
    cases ha with
    | head => exact h4.2
    | tail _ ha => exact h3.2 a ha
  · rw [atts_no (by simpa using h)]
    exact ⟨Nat.le_refl _, fun a ha => by cases ha⟩
termination_by l.length - i
decreasing_by omega
/-- What every token of a page is. -/
structure TokIn (l : Bs) (t : Tk) : Prop where
  ord : OrdA t.atts t.fr t.til
  val : ∀ a ∈ t.atts, ValA l a
  til : t.til ≤ l.length
theorem opn_in {l : Bs} {i : Nat} (hi : i ≤ l.length) {r : Bs × List Atr × Nat} (h : (opn l i).1 = some r) : OrdA r.2.1 i r.2.2 ∧ ∀ a ∈ r.2.1, ValA l a := by
  unfold opn at h
  split at h
  · rename_i h1
    have hlt : i < l.length := (List.getElem?_eq_some_iff.1 h1).1
    have h2 := nm_ge inTagB l (i + 1)
    have h3 := nm_le inTagB l (i + 1) (by omega)
    generalize nm inTagB l (i + 1) = e at h h2 h3 ⊢
    split at h
    · cases h
    · obtain ⟨h4, h5⟩ := atts_in l e h3
      generalize atts l e = q at h h4 h5 ⊢
      have h7 := skip_ge isBl l q.2
      simp only at h
      generalize skip isBl l q.2 = b at h h7 ⊢
      have h9 : b ≤ (if l[b]? = some 47 then b + 1 else b) := by split <;> omega
      generalize (if l[b]? = some 47 then b + 1 else b) = c at h h9 ⊢
      split at h
      · cases h
        exact ⟨h4.mono (by omega) (by simp; omega), h5⟩
      · cases h
  · cases h
theorem tok_in {l : Bs} {i : Nat} {t : Tk} (hi : i ≤ l.length) (h : tok l i = some t) : TokIn l t := by
  have hle := tok_le hi h
  unfold tok at h
  split at h
  · cases h
    exact ⟨by show i ≤ _; have := hle.1; simp at this; omega, (fun a ha => by cases ha), hle.2.1⟩
  · split at h
    · cases h
      exact ⟨by show i ≤ _; have := hle.1; simp at this; omega, (fun a ha => by cases ha), hle.2.1⟩
    · split at h
      · rename_i r hr
        cases h
        have := opn_in hi hr
        exact ⟨this.1, this.2, hle.2.1⟩
      · cases h
theorem run_all {l : Bs} {P : Tk → Prop} (h1 : ∀ a b, a < b → b ≤ l.length → P ⟨1, a, b, [], []⟩) (h2 : ∀ i t, i ≤ l.length → tok l i = some t → P t) :
    ∀ (n fr i : Nat) (m : List Tk), l.length - i ≤ n → fr ≤ i → i ≤ l.length → (∀ t ∈ m, P t) → ∀ t ∈ run l fr i m, P t := by
  have htx : ∀ a b, b ≤ l.length → ∀ t ∈ txt a b, P t := by
    intro a b hb t ht
    unfold txt at ht
    split at ht
    · rename_i hlt
      rw [List.mem_singleton] at ht
      rw [ht]
      exact h1 a b hlt hb
    · cases ht
  have happ : ∀ {a b : List Tk}, (∀ t ∈ a, P t) → (∀ t ∈ b, P t) → ∀ t ∈ a ++ b, P t := fun ha hb t ht => (List.mem_append.1 ht).elim (ha t) (hb t)
  intro n
  induction n with
  | zero =>
    intro fr i m hn hf hi hm
    rw [run_end (by omega)]
    exact happ hm (htx _ _ (Nat.le_refl _))
  | succ n ih =>
    intro fr i m hn hf hi hm
    by_cases hc : i < l.length ∧ m.length ≤ 20000
    · cases ht : tok l i with
      | none =>
        rw [run_none hc.1 hc.2 ht]
        exact ih fr (i + 1) m (by omega) (by omega) (by omega) hm
      | some t =>
        rw [run_some hc.1 hc.2 ht]
        have hle := tok_le hi ht
        have hre := rawE_le l t.til t.name hle.2.1
        have ht2 := h2 i t hi ht
        split
        · refine ih _ _ _ (by omega) (Nat.le_refl _) hre.2 (happ (happ hm (htx _ _ hi)) ?_)
          intro x hx
          cases hx with
          | head => exact ht2
          | tail _ hx => exact htx _ _ hre.2 x hx
        · refine ih _ _ _ (by omega) (Nat.le_refl _) hle.2.1 (happ (happ hm (htx _ _ hi)) ?_)
          intro x hx
          rw [List.mem_singleton] at hx
          rw [hx]
          exact ht2
    · rw [run_end hc]
      exact happ hm (htx _ _ (Nat.le_refl _))
theorem runIn_ok (l : Bs) : ∀ t ∈ run l 0 0 [], TokIn l t :=
  run_all (fun a b h hb => ⟨Nat.le_of_lt h, fun a ha => (by cases ha), hb⟩) (fun i t hi ht => tok_in hi ht) l.length 0 0 [] (by omega) (Nat.le_refl _) (Nat.zero_le _) (fun t ht => by cases ht)
theorem side_get {m : List Tk} {a b : Nat} (h : Side m a b) : a ≤ b ∧ ∀ i, i < m.length → a ≤ (m[i]?.getD .none).fr ∧ (m[i]?.getD .none).fr < (m[i]?.getD .none).til ∧ (m[i]?.getD .none).til ≤ b := by
  induction m generalizing a with
  | nil => exact ⟨Nat.le_of_eq h, fun i hi => absurd hi (Nat.not_lt_zero _)⟩
  | cons t m ih =>
    obtain ⟨h1, h2, h3, h4, h5⟩ := h
    obtain ⟨h6, h7⟩ := ih h5
    refine ⟨by omega, fun i hi => ?_⟩
    cases i with
    | zero => simp; omega
    | succ i => have := h7 i (by simp at hi; omega); simp; omega
end Go.Proofs.YtjbabjfmcganpaaGreatDoor
/-
  PAGE, IN PLAIN LEAN: what the links of a page are.
-/
set_option linter.unusedSimpArgs false
set_option linter.unusedVariables false
namespace Go.Proofs.YtjbabjfmcganpaaGreatDoor
open Go.Lw
set_option maxRecDepth 100000
set_option maxHeartbeats 1000000

def wStyle : Bs := [115, 116, 121, 108, 101]
def wBase : Bs := [98, 97, 115, 101]
def wHref : Bs := [104, 114, 101, 102]
def wRel : Bs := [114, 101, 108]
def wSheet : Bs := [115, 116, 121, 108, 101, 115, 104, 101, 101, 116]
/-- A link. -/
structure Lnk where
  kind : Nat
  text : Bs
  fr : Nat
  til : Nat
  dest : Adr
  leads : Bool
abbrev Lnk.none : Lnk := ⟨0, [], 0, 0, Adr.zero, false⟩
abbrev encL (x : Lnk) : List D := [int x.kind, str x.text, int x.fr, int x.til, str x.dest.scheme, str x.dest.host, str x.dest.port, str x.dest.path, str x.dest.query, tru x.dest.hasQ, str x.dest.frag, tru x.dest.hasF, tru x.leads]
abbrev lnkSl (m : List Lnk) : D := .sl m.length fun i => encL (m[i]?.getD .none)
@[simp] theorem getD_encL (o : Option Lnk) : (Option.map encL o).getD (encL .none) = encL (o.getD .none) := by cases o <;> rfl
def addL (at1 bs1 : Adr) (k : Nat) (text : Bs) (fr til : Nat) : Lnk :=
  if (resR (if k = 1 then at1 else bs1) text).2 = 0 then ⟨k, text, fr, til, (resR (if k = 1 then at1 else bs1) text).1, true⟩ else ⟨k, text, fr, til, Adr.zero, false⟩
/-- The first attribute with a name, and whether it has a value. -/
def atrAt (m : List Atr) (n : Bs) (j : Nat) : Atr × Bool := if j < m.length then (if (m[j]?.getD .none).name = n then (m[j]?.getD .none, (m[j]?.getD .none).has) else atrAt m n (j + 1)) else (.none, false)
termination_by m.length - j
theorem atrAt_mem (m : List Atr) (n : Bs) (j : Nat) (h : (atrAt m n j).2 = true) : (atrAt m n j).1 ∈ m := by
  rw [atrAt] at h ⊢
  split
  · rename_i hj
    rw [if_pos hj] at h
    split
    · rw [List.getElem?_eq_getElem hj, Option.getD_some]
      exact List.getElem_mem hj
    · rename_i hn
      rw [if_neg hn] at h
      exact atrAt_mem m n (j + 1) h
  · rename_i hj
    rw [if_neg hj] at h
    cases h
termination_by m.length - j
/-- The base of a page. -/
def baseAt (m : List Tk) (a : Adr) (i : Nat) : Adr := if i < m.length then
    (if (m[i]?.getD .none).kind = 2 ∧ (m[i]?.getD .none).name = wBase ∧ (atrAt (m[i]?.getD .none).atts wHref 0).2 = true then
      (if (resR a (atrAt (m[i]?.getD .none).atts wHref 0).1.val).2 = 0 then (resR a (atrAt (m[i]?.getD .none).atts wHref 0).1.val).1 else a)
    else baseAt m a (i + 1)) else a
termination_by m.length - i
/-- The words of a text. -/
def pBl (r : Nat) : Bool := decide (r < 128) && isBl (UInt8.ofNat r)
def wordsB (s : Bs) : List Bs := (Lib.goFieldsP pBl (bs s)).map (·.data.toList)
def isStyB (m : List Atr) : Bool := (atrAt m wRel 0).2 && decide (wSheet ∈ wordsB (small (atrAt m wRel 0).1.val))
def kindF (st : Bool) (n t : Bs) : Nat :=
  if n = wStyle then 9 else if n = wHref ∧ t = wBase then 1 else if n = wHref ∧ (t = [97] ∨ t = [97, 114, 101, 97]) then 2
  else if n = wHref ∧ t = [108, 105, 110, 107] then (if st = true then 5 else 2)
  else if (n = [115, 114, 99] ∧ t ∈ ([[105, 109, 103], [105, 110, 112, 117, 116], [115, 111, 117, 114, 99, 101], [118, 105, 100, 101, 111], [97, 117, 100, 105, 111]] : List Bs)) ∨ (n = [112, 111, 115, 116, 101, 114] ∧ t = [118, 105, 100, 101, 111]) then 3
  else if n = [115, 114, 99, 115, 101, 116] ∧ (t = [105, 109, 103] ∨ t = [115, 111, 117, 114, 99, 101]) then 4
  else if n = [115, 114, 99] ∧ t = [115, 99, 114, 105, 112, 116] then 6
  else if n = [115, 114, 99] ∧ (t = [102, 114, 97, 109, 101] ∨ t = [105, 102, 114, 97, 109, 101]) then 7
  else if n = [97, 99, 116, 105, 111, 110] ∧ t = [102, 111, 114, 109] then 8 else 0
def kindB (t : Tk) (n : Bs) : Nat := kindF (isStyB t.atts) n t.name
theorem kindF_le (st : Bool) (n t : Bs) : kindF st n t ≤ 9 := by unfold kindF; (repeat' split) <;> omega
def spansF (k : Nat) (v : Bs) : List (Nat × Nat) := if k = 4 then imgs v else if k = 9 then inS v 0 else [(0, v.length)]
theorem spansF_ord (k : Nat) (v : Bs) : Ord (spansF k v) 0 v.length := by
  unfold spansF
  split
  · exact imgs_ord v
  · split
    · exact inS_ord v 0 (Nat.zero_le _)
    · exact ⟨Nat.zero_le _, Nat.zero_le _, Nat.le_refl _⟩
theorem inS_lenL (l : Bs) (i : Nat) : (inS l i).length ≤ l.length - i := by
  by_cases hi : i < l.length
  · cases hs : sty l i with
    | some x =>
      have h1 := sty_le (by omega) hs
      have h2 := inS_lenL l x.2
      rw [inS_some hi hs]
      simp; omega
    | none =>
      have h2 := inS_lenL l (i + 1)
      rw [inS_none hi hs]
      omega
  · rw [inS_end hi]; simp
termination_by l.length - i
theorem spansF_len (k : Nat) (v : Bs) : (spansF k v).length ≤ v.length + 2 := by
  unfold spansF
  have h1 := imgs_len v
  have h2 := inS_lenL v 0
  split
  · exact h1
  · split
    · omega
    · simp
def firstB (m : List Atr) (i : Nat) : Bool := (m[i]?.getD .none).has && !((m.take i).any fun x => decide (x.name = (m[i]?.getD .none).name))
def styTx (m : List Tk) (i : Nat) : Bool := decide ((m[i]?.getD .none).kind = 1) && decide (0 < i) && decide ((m[i - 1]?.getD .none).kind = 2) && decide ((m[i - 1]?.getD .none).name = wStyle)
/-- Does an attribute have links? -/
def hasL (t : Tk) (k : Nat) : Bool := decide (t.kind = 2) && decide (kindB t (t.atts[k]?.getD .none).name ≠ 0) && firstB t.atts k
/-- A part of a text. -/
def cutB (v : Bs) (x : Nat × Nat) : Bs := (v.take x.2).drop x.1
/-- The links of an attribute. -/
def attLs (at1 bs1 : Adr) (t : Tk) (k : Nat) : List Lnk :=
  if hasL t k = true then (spansF (kindB t (t.atts[k]?.getD .none).name) (t.atts[k]?.getD .none).val).map fun x => addL at1 bs1 (kindB t (t.atts[k]?.getD .none).name) (cutB (t.atts[k]?.getD .none).val x) (t.atts[k]?.getD .none).fr (t.atts[k]?.getD .none).til else []
/-- The links of the text behind a style. -/
def styLs (p : Bs) (at1 bs1 : Adr) (m : List Tk) (i : Nat) : List Lnk :=
  if styTx m i = true then (inS (cutB p ((m[i]?.getD .none).fr, (m[i]?.getD .none).til)) 0).map fun x => addL at1 bs1 9 (cutB p ((m[i]?.getD .none).fr + x.1, (m[i]?.getD .none).fr + x.2)) ((m[i]?.getD .none).fr + x.1) ((m[i]?.getD .none).fr + x.2) else []
def attsLs (at1 bs1 : Adr) (t : Tk) : Nat → List Lnk
  | 0 => []
  | k + 1 => attsLs at1 bs1 t k ++ attLs at1 bs1 t k
def tokLs (p : Bs) (at1 bs1 : Adr) (m : List Tk) (i : Nat) : List Lnk := styLs p at1 bs1 m i ++ attsLs at1 bs1 (m[i]?.getD .none) (m[i]?.getD .none).atts.length
/-- All links; those that are found ahead of a token; where the program stops. -/
def allLs (p : Bs) (at1 bs1 : Adr) (m : List Tk) : Nat → List Lnk
  | 0 => []
  | i + 1 => allLs p at1 bs1 m i ++ tokLs p at1 bs1 m i
def stopAt (p : Bs) (at1 bs1 : Adr) (m : List Tk) (i : Nat) : Nat := if i < m.length then (if 5000 < (allLs p at1 bs1 m (i + 1)).length then i + 1 else stopAt p at1 bs1 m (i + 1)) else m.length
termination_by m.length - i
def linksR (p : Bs) (at1 : Adr) (m : List Tk) : List Lnk := allLs p at1 (baseAt m at1 0) m (stopAt p at1 (baseAt m at1 0) m 0)
theorem allLs_mono (p : Bs) (at1 bs1 : Adr) (m : List Tk) : ∀ i j, i ≤ j → (allLs p at1 bs1 m i).length ≤ (allLs p at1 bs1 m j).length := by
  intro i j h
  induction j with
  | zero => obtain rfl : i = 0 := by omega
            exact Nat.le_refl _
  | succ j ih =>
    rcases Nat.lt_or_ge i (j + 1) with h2 | h2
    · have := ih (by omega)
      show _ ≤ (allLs p at1 bs1 m j ++ tokLs p at1 bs1 m j).length
      rw [List.length_append]
      omega
    · obtain rfl : i = j + 1 := by omega
      exact Nat.le_refl _
theorem stopAt_le (p : Bs) (at1 bs1 : Adr) (m : List Tk) (i : Nat) (hi : i ≤ m.length) : i ≤ stopAt p at1 bs1 m i ∧ stopAt p at1 bs1 m i ≤ m.length ∧ ((allLs p at1 bs1 m (stopAt p at1 bs1 m i)).length ≤ 5000 → stopAt p at1 bs1 m i = m.length) := by
  rw [stopAt]
  split
  · split
    · rename_i h1 h2
      exact ⟨by omega, by omega, fun h => by omega⟩
    · have := stopAt_le p at1 bs1 m (i + 1) (by omega)
      exact ⟨by omega, this.2⟩
  · exact ⟨hi, Nat.le_refl _, fun _ => rfl⟩
termination_by m.length - i
theorem cutB_len (v : Bs) (x : Nat × Nat) : (cutB v x).length ≤ v.length := by simp [cutB]; omega
/-- No list of links is too long to be laid. -/
theorem attLs_len (at1 bs1 : Adr) (t : Tk) (k : Nat) (h : ∀ a ∈ t.atts, a.val.length ≤ 200000) : (attLs at1 bs1 t k).length ≤ 200002 := by
  unfold attLs
  split
  · rename_i hk
    rw [List.length_map]
    have h1 := spansF_len (kindB t (t.atts[k]?.getD .none).name) (t.atts[k]?.getD .none).val
    have h2 : (t.atts[k]?.getD .none).val.length ≤ 200000 := by
      by_cases hl : k < t.atts.length
      · rw [List.getElem?_eq_getElem hl, Option.getD_some]
        exact h _ (List.getElem_mem hl)
      · rw [List.getElem?_eq_none (by omega)]
        simp
    omega
  · simp
theorem attsLs_len (at1 bs1 : Adr) (t : Tk) (h : ∀ a ∈ t.atts, a.val.length ≤ 200000) : ∀ k, (attsLs at1 bs1 t k).length ≤ k * 200002
  | 0 => by simp [attsLs]
  | k + 1 => by
    have h1 := attsLs_len at1 bs1 t h k
    have h2 := attLs_len at1 bs1 t k h
    simp only [attsLs, List.length_append]
    omega
end Go.Proofs.YtjbabjfmcganpaaGreatDoor
/-
  PAGE: the words of a rel: strings.FieldsFunc; isStyle. (WITH run_drawN.)
-/
set_option linter.unusedSimpArgs false
set_option linter.unusedVariables false
namespace Go.Proofs.YtjbabjfmcganpaaGreatDoor
open Go.Lw Go.RowKit
set_option maxRecDepth 100000
set_option maxHeartbeats 1000000

def idxK (L : List Bs) (s : Bs) (j : Nat) : Int := if j < L.length then (if s = L[j]?.getD [] then (j : Int) else idxK L s (j + 1)) else -1
termination_by L.length - j
theorem idxK_mem (L : List Bs) (s : Bs) (j : Nat) : 0 ≤ idxK L s j ↔ s ∈ L.drop j := by
  rw [idxK]
  split
  · rename_i h
    rw [List.drop_eq_getElem_cons h, List.getElem?_eq_getElem h, Option.getD_some]
    split
    · rename_i hs
      exact ⟨fun _ => List.mem_cons.2 (.inl hs), fun _ => by omega⟩
    · rename_i hs
      rw [idxK_mem L s (j + 1), List.mem_cons]
      exact ⟨.inr, fun h => h.resolve_left hs⟩
  · rename_i h
    rw [List.drop_of_length_le (by omega)]
    simp
termination_by L.length - j
theorem indexK_ok (L : List Bs) (s : Bs) (hm : L.length ≤ 5000002) : FnOk Tryz.prog 110 [strSl L, str s] (int (idxK L s 0)) := by
  refine fnOk Tryz.func110 rfl (by kernel_rfl) Tryz.ntmps110 _ rfl (by simp) fun C hc => ?_
  repeat' (first | (first | refine Ya ?_ | refine Yb ?_ | refine Yc ?_ | refine Yd ?_ | refine Ye ?_ | refine Yf ?_ | refine Yg ?_ | refine Yh ?_ | refine Yi ?_ | refine Yj ?_ | refine Yk ?_ | refine Yl ?_ | refine Ym ?_ | refine Yn ?_ | refine Yo ?_ | refine Yp (h := ?_) | refine Yq ?_ | refine Yr ?_ | refine Ys ?_ | refine Zr hc (hk := ?_) | refine Zd hc (hk := ?_) | (refine Zc (ht := fun hb => ?_) (hf := fun hb => ?_) <;> (try simp at hb)) | fail) | (first | refine Zo hc (hk := ?_) | refine Zu hc (hk := ?_) | refine Ze hc (hk := ?_) | refine Zn hc (hk := ?_) | fail))
  refine ewp_loop (fun j : Nat => ⟨[(0, .d (strSl L)), (1, .d (str s)), (7, .d (int L.length)), (8, .d (int j))], []⟩) (fun j => j ≤ L.length ∧ idxK L s 0 = idxK L s j) (fun j => L.length - j) 0 (by simp) (run_keep [0, 1, 7, 8] [] (by simp; exact Gives.mk) (by simp; exact Gives.mk)) ?_
  rintro j ⟨h1, h2⟩
  have h3 : idxK L s j = if j < L.length then (if s = L[j]?.getD [] then (j : Int) else idxK L s (j + 1)) else -1 := by rw [idxK]
  repeat' (first | (first | refine Ya ?_ | refine Yb ?_ | refine Yc ?_ | refine Yd ?_ | refine Ye ?_ | refine Yf ?_ | refine Yg ?_ | refine Yh ?_ | refine Yi ?_ | refine Yj ?_ | refine Yk ?_ | refine Yl ?_ | refine Ym ?_ | refine Yn ?_ | refine Yo ?_ | refine Yp (h := ?_) | refine Yq ?_ | refine Yr ?_ | refine Ys ?_ | refine Zr hc (hk := ?_) | refine Zd hc (hk := ?_) | (refine Zc (ht := fun hb => ?_) (hf := fun hb => ?_) <;> (try simp at hb)) | fail) | (first | refine Zo hc (hk := ?_) | refine Zu hc (hk := ?_) | refine Ze hc (hk := ?_) | refine Zn hc (hk := ?_) | fail))
  · rw [h2, h3, if_pos (by assumption), if_pos hb]
    (refine Zl hc (hr := ?_))
    simp
  · exact ⟨j + 1, ⟨by omega, by rw [h2, h3, if_pos (by assumption), if_neg hb]⟩, by omega, run_back [0, 1, 7, 8] [] (by simp; exact Gives.mk) (by simp; exact Gives.mk) (by simp)⟩
  · rw [h2, h3, if_neg (by omega)]
    (refine Zl hc (hr := ?_))
    simp
theorem containsK_ok (L : List Bs) (s : Bs) (hm : L.length ≤ 5000002) : FnOk Tryz.prog 73 [strSl L, str s] (tru (decide (s ∈ L))) := by
  refine fnOk Tryz.func73 rfl (by kernel_rfl) Tryz.ntmps73 _ rfl (by simp) fun C hc => ?_
  repeat' (first | (first | refine Ya ?_ | refine Yb ?_ | refine Yc ?_ | refine Yd ?_ | refine Ye ?_ | refine Yf ?_ | refine Yg ?_ | refine Yh ?_ | refine Yi ?_ | refine Yj ?_ | refine Yk ?_ | refine Yl ?_ | refine Ym ?_ | refine Yn ?_ | refine Yo ?_ | refine Yp (h := ?_) | refine Yq ?_ | refine Yr ?_ | refine Ys ?_ | refine Zr hc (hk := ?_) | refine Zd hc (hk := ?_) | (refine Zc (ht := fun hb => ?_) (hf := fun hb => ?_) <;> (try simp at hb)) | fail) | (first | refine Zw hc (hf := by exact indexK_ok L s hm) (hk := ?_) | refine Zq hc (hf := by exact indexK_ok L s hm) (hk := ?_) | refine Zo hc (hk := ?_) | refine Zu hc (hk := ?_) | refine Ze hc (hk := ?_) | refine Zn hc (hk := ?_) | fail))
  (refine Zl hc (hr := ?_))
  simp
  have := idxK_mem L s 0
  simpa using this
theorem spansP_len (p : Nat → Bool) (s : ByteArray) : ∀ (f pos : Nat) (st : Option Nat) (acc : List (Nat × Nat)), (Lib.spansFromP p s f pos st acc).1.length ≤ acc.length + f
  | 0, pos, st, acc => by simp [Lib.spansFromP]
  | f + 1, pos, st, acc => by
    unfold Lib.spansFromP
    split
    · split
      · cases st with
        | some a =>
          have := spansP_len p s f (pos + (Utf8.decode s pos).2) none (acc ++ [(a, pos)])
          simp only [List.length_append, List.length_singleton] at this
          simp only
          omega
        | none =>
          have := spansP_len p s f (pos + (Utf8.decode s pos).2) none acc
          simp only
          omega
      · cases st with
        | some a =>
          have := spansP_len p s f (pos + (Utf8.decode s pos).2) (some a) acc
          simp only
          omega
        | none =>
          have := spansP_len p s f (pos + (Utf8.decode s pos).2) (some pos) acc
          simp only
          omega
    · simp
theorem wordsB_len (s : Bs) : (wordsB s).length ≤ s.length + 1 := by
  have h := spansP_len pBl (bs s) (bs s).size 0 none []
  have hs : (bs s).size = s.length := by simp
  unfold wordsB Lib.goFieldsP Lib.spansOfP Lib.closeSpans
  simp only [List.length_map]
  split
  · simp only [List.length_append, List.length_singleton]
    simp only [List.length_nil] at h
    omega
  · simp only [List.length_nil] at h
    omega
theorem enters_cb {P : Program} {f : FuncId} (hf : callB P f = true) : ∀ args w, (callFunc f args).run P w = .ok (.enter f args) w := by
  intro args w
  unfold callB at hf
  split at hf
  · rename_i fn hfn
    simp only [Bool.and_eq_true, Bool.not_eq_true'] at hf
    have hb : ¬ fn.body = none := fun e => by simp [e] at hf
    have hn : ¬ fn.name = "runtime.NumGoroutine" := by simpa using hf.1
    simp [callFunc, hfn, hn, hb]
  · cases hf
theorem isStyF_ok (r : Nat) (hr : r ≤ 1114111) : FnOk Tryz.prog 109 [.lit (.int .i32 (r : Int))] (tru (pBl r)) := by
  refine fnOk Tryz.func109 rfl (by kernel_rfl) Tryz.ntmps109 _ rfl (by simp) fun C hc => ?_
  have hB := blank_ok (UInt8.ofNat r)
  unfold pBl
  by_cases h : r < 128
  · have e : ((UInt8.ofNat r).toNat : Int) = r := by simp; omega
    simp only [u8, e] at hB
    repeat' (first | (first | refine Ya ?_ | refine Yb ?_ | refine Yc ?_ | refine Yd ?_ | refine Ye ?_ | refine Yf ?_ | refine Yg ?_ | refine Yh ?_ | refine Yi ?_ | refine Yj ?_ | refine Yk ?_ | refine Yl ?_ | refine Ym ?_ | refine Yn ?_ | refine Yo ?_ | refine Yp (h := ?_) | refine Yq ?_ | refine Yr ?_ | refine Ys ?_ | refine Zr hc (hk := ?_) | refine Zd hc (hk := ?_) | (refine Zc (ht := fun hb => ?_) (hf := fun hb => ?_) <;> (try simp at hb)) | fail) | (first | refine Zw hc (hf := by exact hB) (hk := ?_) | refine Zq hc (hf := by exact hB) (hk := ?_) | refine Zo hc (hk := ?_) | refine Zu hc (hk := ?_) | refine Ze hc (hk := ?_) | refine Zn hc (hk := ?_) | fail))
    (refine Zl hc (hr := ?_))
    simp [h]
    intro _
    omega
  · have h' : ¬ (r : Int) < 128 := by omega
    repeat' (first | (first | refine Ya ?_ | refine Yb ?_ | refine Yc ?_ | refine Yd ?_ | refine Ye ?_ | refine Yf ?_ | refine Yg ?_ | refine Yh ?_ | refine Yi ?_ | refine Yj ?_ | refine Yk ?_ | refine Yl ?_ | refine Ym ?_ | refine Yn ?_ | refine Yo ?_ | refine Yp (h := ?_) | refine Yq ?_ | refine Yr ?_ | refine Ys ?_ | refine Zr hc (hk := ?_) | refine Zd hc (hk := ?_) | (refine Zc (ht := fun hb => ?_) (hf := fun hb => ?_) <;> (try simp at hb)) | fail) | (first | refine run_callW hc (by simp; exact Gives.mk) (by simp; exact Gives.mk) (by simp; exact Gives.mk) (by simp; exact Gives.mk) (by simp; exact Gives.mk) (fun _ => by first | exact (show FnOk _ _ _ (tru false) from by exfalso; simp_all; omega)) (by simp) (by simp) ?_ | refine run_callQ hc (by simp; exact Gives.mk) (by simp; exact Gives.mk) (by simp; exact Gives.mk) (by simp; exact Gives.mk) (by simp; exact Gives.mk) (fun _ => by first | exact (show FnOk _ _ _ (tru false) from by exfalso; simp_all; omega)) (by simp) (by simp) ?_ | refine run_ops hc (by simp; first | exact Ends.go | exact Ends.halt) (by decide) (by first | exact True.intro | omega | assumption | (simp; done) | (simp; omega) | (simp at *; omega)) ?_ | refine run_quiet hc (by simp; first | exact Ends.go | exact Ends.halt) (by decide) (by first | exact True.intro | omega | assumption | (simp; done) | (simp; omega) | (simp at *; omega)) ?_ | refine run_regionW hc (by simp; exact Ends.halt) (by first | exact True.intro | omega | assumption | (simp; done) | (simp; omega) | (simp at *; omega)) ?_ | refine run_drawN hc (by kernel_rfl) (by decide) (by kernel_rfl) (by simp; exact Ends.halt) (by first | exact True.intro | omega | assumption | (simp; done) | (simp; omega) | (simp at *; omega)) ?_ | fail))
    (refine Zl hc (hr := ?_))
    simp [h]
theorem fields_ok (s : Bs) (hs : s.length ≤ 200000) : FnOk Tryz.prog 108 [str s, .lit (.func (.func 109) #[] #[])] (strSl (wordsB s)) := by
  refine ⟨by kernel_rfl, fun ok w vs hk hstd ha => ?_⟩
  have h0 : ArgsRd w ok ([Value.string (bs s), Value.func (.func 109) #[] #[]].map D.lit) vs := ha
  have hvs : vs = #[.string (bs s), .func (.func 109) #[] #[]] := lits_rd h0
  subst hvs
  have hcb : callB Tryz.prog 109 = true := by kernel_rfl
  have hp : PredGrows Tryz.prog 109 #[] pBl w := by
    intro W x hx hb
    refine ((isStyF_ok x hx).2 ok W #[.int .i32 (x : Int)] (fun k hk' => Nat.lt_of_lt_of_le (hk k hk') hb.size) (hstd.below hb) ⟨rfl, fun i d hd => ?_⟩).mono fun e w' ⟨v, he, hbl, hr⟩ => ⟨?_, hbl⟩
    · cases i with
      | zero => cases hd; exact ⟨_, rfl, .lit _⟩
      | succ i => simp at hd
    · rw [he]
      cases hr
      rfl
  have h := Tryz.strings_FieldsFunc_grows 109 #[] (enters_cb hcb) pBl (bs s) w (by simp; omega) hp
  have hwl := wordsB_len s
  have hL : (Lib.goFieldsP pBl (bs s)).length = (wordsB s).length := by simp [wordsB]
  have hM : (Lib.goFieldsP pBl (bs s)).map Value.string = (wordsB s).map fun x => Value.string (bs x) := by
    unfold wordsB
    rw [List.map_map]
    exact List.map_congr_left fun x _ => rfl
  rw [hL, hM] at h
  refine h.mono fun e w' ⟨A, he, hA, hro, hbl⟩ => ⟨_, he, hbl, ?_⟩
  obtain ⟨hlen, ⟨hv, _⟩ | ⟨g, cap, cur, hv, hg, hcell, hn, hcap, hcs, htake⟩⟩ := hro
  · cases hv
  · obtain ⟨rfl, rfl⟩ : A = g ∧ (wordsB s).length = cap := by cases hv; exact ⟨rfl, rfl⟩
    have hlt : A < w'.heap.size := by
      rcases Nat.lt_or_ge A w'.heap.size with h | h
      · exact h
      · rw [Array.getElem?_eq_none h] at hcell; cases hcell
    refine .sl (wordsB s).length _ _ (wordsB s).length 1 A 0 (fun i _ => .string (bs ((wordsB s)[i]?.getD []))) (Nat.le_refl _) (by unfold maxLen; omega) (fun _ => ⟨rfl, .inr ⟨hA, hlt⟩⟩) (fun i hi => by simp [hi]) (fun i k hi hk => ?_) (fun i k d hi hd => ?_)
    · obtain rfl : k = 0 := by omega
      have e1 : cur.toList[i]? = some (Value.string (bs ((wordsB s)[i]?.getD []))) := by
        have e2 := congrArg (fun l => l[i]?) htake
        simp only [Nat.mul_one, List.getElem?_take, if_pos hi] at e2
        rw [e2, List.getElem?_map, List.getElem?_eq_getElem hi]
        rfl
      simp only [World.cell?, hcell, Nat.zero_add, Nat.mul_one, Nat.add_zero, Option.isSome_none, Bool.false_eq_true, if_false]
      rw [← Array.getElem?_toList]
      exact e1
    · cases k with
      | zero =>
        rw [List.getElem?_map, List.getElem?_eq_getElem hi] at hd
        rw [List.getElem?_eq_getElem hi]
        cases hd
        exact .lit _
      | succ k =>
        rw [List.getElem?_map, List.getElem?_eq_getElem hi] at hd
        simp at hd
end Go.Proofs.YtjbabjfmcganpaaGreatDoor
