/-
  PAGE: the scanner: beginnings of tags, tokens. (WITH run_drawN.)
-/
import Derived.Test.YtjbabjfmcganpaaGreatDoorPgAtt
set_option linter.unusedSimpArgs false
set_option linter.unusedVariables false
namespace Go.Proofs.YtjbabjfmcganpaaGreatDoor
open Go.Lw
set_option maxRecDepth 100000
set_option maxHeartbeats 1000000

theorem att_le (l : Bs) (i : Nat) (hi : i ≤ l.length) : (att l i).2.2 ≤ l.length ∧ i ≤ (att l i).2.2 ∧ ((att l i).2.1 = true → i < (att l i).2.2 ∧ i ≤ (att l i).1.fr ∧ (att l i).1.fr ≤ (att l i).1.til ∧ (att l i).1.til ≤ (att l i).2.2 ∧ ((att l i).1.has = false → (att l i).1.fr = (att l i).1.til)) := by
  have h1 := skip_ge isBl l i
  have h2 := skip_le isBl l i hi
  unfold att
  generalize skip isBl l i = b at h1 h2 ⊢
  have h3 := nm_ge inNameB l b
  have h4 := nm_le inNameB l b h2
  generalize nm inNameB l b = e at h3 h4 ⊢
  split
  · simp; omega
  split
  · simp; omega
  split
  · rename_i he
    have hlt : e < l.length := (List.getElem?_eq_some_iff.1 he).1
    obtain ⟨h5, h6, h7⟩ := val_le l (e + 1) (by omega)
    split
    · rename_i ho
      have h8 := h7 ho
      simp; omega
    · simp; omega
  · simp; omega
def atts (l : Bs) (i : Nat) : List Atr × Nat :=
  if (att l i).2.1 = true ∧ i < (att l i).2.2 ∧ (att l i).2.2 ≤ l.length then ((att l i).1 :: (atts l (att l i).2.2).1, (atts l (att l i).2.2).2) else ([], i)
termination_by l.length - i
theorem atts_yes {l : Bs} {i : Nat} (hi : i ≤ l.length) (h : (att l i).2.1 = true) : atts l i = ((att l i).1 :: (atts l (att l i).2.2).1, (atts l (att l i).2.2).2) := by
  have := att_le l i hi
  rw [atts, if_pos ⟨h, (this.2.2 h).1, this.1⟩]
theorem atts_no {l : Bs} {i : Nat} (h : (att l i).2.1 = false) : atts l i = ([], i) := by
  rw [atts, if_neg (fun hx => by rw [h] at hx; exact absurd hx.1 (by decide))]
theorem atts_le (l : Bs) (i : Nat) (hi : i ≤ l.length) : i ≤ (atts l i).2 ∧ (atts l i).2 ≤ l.length ∧ (∀ a ∈ (atts l i).1, i ≤ a.fr ∧ a.fr ≤ a.til ∧ a.til ≤ (atts l i).2 ∧ (a.has = false → a.fr = a.til)) ∧ (atts l i).1.length + i ≤ (atts l i).2 := by
  by_cases h : (att l i).2.1 = true
  · have h1 := att_le l i hi
    have h2 := h1.2.2 h
    have h3 := atts_le l (att l i).2.2 h1.1
    rw [atts_yes hi h]
    refine ⟨by simp; omega, by simp; omega, fun a ha => ?_, by simp; omega⟩
    cases ha with
    | head => exact ⟨h2.2.1, h2.2.2.1, by simp; omega, h2.2.2.2.2⟩
    | tail _ ha =>
      have := h3.2.2.1 a ha
      exact ⟨by omega, by omega, by simp; omega, this.2.2.2⟩
  · rw [atts_no (by simpa using h)]
    simp; omega
termination_by l.length - i
decreasing_by omega

abbrev attSl (m : List Atr) : D := .sl m.length fun i => encA (m[i]?.getD .none)
@[simp] theorem getD_encA (o : Option Atr) : (Option.map encA o).getD [.lit (.string (bs [])), .lit (.string (bs [])), .lit (.int .i64 0), .lit (.int .i64 0), .lit (.bool false)] = encA (o.getD .none) := by cases o <;> rfl
abbrev nilSl : D := .lit (.slice none 0 0)
/-- The beginning of a tag. -/
def opn (l : Bs) (i : Nat) : Option (Bs × List Atr × Nat) × Nat :=
  if l[i]? = some 60 then
    if nm inTagB l (i + 1) = i + 1 then (none, i + 1)
    else
      let r := atts l (nm inTagB l (i + 1))
      let b := skip isBl l r.2
      let c := if l[b]? = some 47 then b + 1 else b
      if l[c]? = some 62 then (some (small ((l.take (nm inTagB l (i + 1))).drop (i + 1)), r.1, c + 1), c + 1) else (none, c)
  else (none, i)
@[simp] def opnD : Option (Bs × List Atr × Nat) → D
  | some r => .tup [str r.1, attSl r.2.1, tru true]
  | none => .tup [str [], nilSl, tru false]
theorem open_ok (l : Bs) (i : Nat) (hi : i ≤ l.length) (hm : l.length ≤ 200000) :
    FnMem Tryz.prog 118 [.bp 100000 0] (scn l i) (.d (opnD (opn l i).1)) (scn l (opn l i).2) := by
  refine fnMem Tryz.func118 rfl (by kernel_rfl) Tryz.ntmps118 _ rfl (by simp) fun C hc => ?_
  have hh := has_ok l [60] i hi hm
  rw [pre_one] at hh
  by_cases h0 : l[i]? = some 60
  rotate_left
  · rw [decide_eq_false h0] at hh
    rw [show opn l i = (none, i) by unfold opn; rw [if_neg h0]]
    repeat' (first | (first | refine Ya ?_ | refine Yb ?_ | refine Yc ?_ | refine Yd ?_ | refine Ye ?_ | refine Yf ?_ | refine Yg ?_ | refine Yh ?_ | refine Yi ?_ | refine Yj ?_ | refine Yk ?_ | refine Yl ?_ | refine Ym ?_ | refine Yn ?_ | refine Yo ?_ | refine Yp (h := ?_) | refine Yq ?_ | refine Yr ?_ | refine Ys ?_ | refine Zr hc (hk := ?_) | refine Zd hc (hk := ?_) | (refine Zc (ht := fun hb => ?_) (hf := fun hb => ?_) <;> (try simp at hb)) | fail) | (first | refine Zw hc (hf := by exact hh) (hk := ?_) | refine Zq hc (hf := by exact hh) (hk := ?_) | refine Zo hc (hk := ?_) | refine Zu hc (hk := ?_) | refine Ze hc (hk := ?_) | refine Zn hc (hk := ?_) | fail))
    all_goals try contradiction
    (refine run_leaveM [100000] hc (le_end rfl) (by simp; exact Gives.mk) (by simp; exact Gives.mk) (by first | (simp; done) | (simp; omega)) ?_)
    (first | (simp; done) | (simp; omega))
  have hlt : i < l.length := (List.getElem?_eq_some_iff.1 h0).1
  rw [decide_eq_true h0] at hh
  unfold opn
  rw [if_pos h0]
  have h2 := nm_ge inTagB l (i + 1)
  have h3 := nm_le inTagB l (i + 1) (by omega)
  have hn := name_ok inTagB _ inTag_ok l (i + 1) (by omega) hm
  generalize nm inTagB l (i + 1) = e at h2 h3 hn ⊢
  have hsm := small_ok ((l.take e).drop (i + 1)) (by simp; omega)
  repeat' (first | (first | refine Ya ?_ | refine Yb ?_ | refine Yc ?_ | refine Yd ?_ | refine Ye ?_ | refine Yf ?_ | refine Yg ?_ | refine Yh ?_ | refine Yi ?_ | refine Yj ?_ | refine Yk ?_ | refine Yl ?_ | refine Ym ?_ | refine Yn ?_ | refine Yo ?_ | refine Yp (h := ?_) | refine Yq ?_ | refine Yr ?_ | refine Ys ?_ | refine Zr hc (hk := ?_) | refine Zd hc (hk := ?_) | (refine Zc (ht := fun hb => ?_) (hf := fun hb => ?_) <;> (try simp at hb)) | fail) | (first | refine Zw hc (hf := by exact hh) (hk := ?_) | refine Zq hc (hf := by exact hh) (hk := ?_) | refine Zo hc (hk := ?_) | refine Zu hc (hk := ?_) | refine Ze hc (hk := ?_) | refine Zn hc (hk := ?_) | fail) | (first | refine run_callM ([(100000, 100000)]) (hn) hc (by simp; exact Gives.mk) (by simp; exact Gives.mk) (by simp; exact Gives.mk) (by simp; exact Gives.mk) (by simp; exact Gives.mk) rfl (by simp; exact Gives.mk) (by simp; exact Gives.mk) rfl (by simp) (by simp) (by simp; exact Gives.mk) (by simp; exact Gives.mk) ?_ | fail))
  · rw [if_pos (by omega)]
    (refine run_leaveM [100000] hc (le_end rfl) (by simp; exact Gives.mk) (by simp; exact Gives.mk) (by first | (simp; done) | (simp; omega)) ?_)
    (first | (simp; done) | (simp; omega))
  rw [if_neg (by omega)]
  refine ewp_loop (fun x : Nat × List Atr => ⟨[(0, .bp 100000 0), (5, .d (str ((l.take e).drop (i + 1)))), (6, .os 40000 x.2.length)], [(100000, .box 86 [.d (str l), .d (int x.1)]), (40000, .own 99 5 (true, encA .none) (x.2.map encA))]⟩) (fun x => e ≤ x.1 ∧ x.1 ≤ l.length ∧ atts l e = (x.2 ++ (atts l x.1).1, (atts l x.1).2)) (fun x => l.length - x.1) (e, []) (by simp; omega) (run_keepB [(6, none, 40000, 99, encA .none)] [0, 5, 6] [100000, 40000] (by simp; exact Gives.mk) (by simp; exact Gives.mk) (by simp; exact Gives.mk)) ?_
  rintro ⟨j, m⟩ ⟨h4, h5, h6⟩
  simp only at h4 h5 h6 ⊢
  have ha := attribute_ok l j h5 hm
  have hal := att_le l j h5
  have hyes := fun h => atts_yes (l := l) h5 h
  have hno := fun h => atts_no (l := l) (i := j) h
  have hml : m.length ≤ 200000 := by
    have hle := atts_le l e h3
    rw [h6] at hle
    simp only [List.length_append] at hle
    omega
  generalize att l j = t at ha hal hyes hno
  obtain ⟨t, o, q⟩ := t
  simp only at ha hal hyes hno
  repeat' (first | (first | refine Ya ?_ | refine Yb ?_ | refine Yc ?_ | refine Yd ?_ | refine Ye ?_ | refine Yf ?_ | refine Yg ?_ | refine Yh ?_ | refine Yi ?_ | refine Yj ?_ | refine Yk ?_ | refine Yl ?_ | refine Ym ?_ | refine Yn ?_ | refine Yo ?_ | refine Yp (h := ?_) | refine Yq ?_ | refine Yr ?_ | refine Ys ?_ | refine Zr hc (hk := ?_) | refine Zd hc (hk := ?_) | (refine Zc (ht := fun hb => ?_) (hf := fun hb => ?_) <;> (try simp at hb)) | fail) | (first | refine Zo hc (hk := ?_) | refine Zu hc (hk := ?_) | refine Ze hc (hk := ?_) | refine Zn hc (hk := ?_) | fail) | (first | refine run_callM ([(100000, 100000)]) (ha) hc (by simp; exact Gives.mk) (by simp; exact Gives.mk) (by simp; exact Gives.mk) (by simp; exact Gives.mk) (by simp; exact Gives.mk) rfl (by simp; exact Gives.mk) (by simp; exact Gives.mk) rfl (by simp) (by simp) (by simp; exact Gives.mk) (by simp; exact Gives.mk) ?_ | fail))
  · have e1 : atts l e = (m, j) := by rw [h6, hno hb]; simp
    rw [e1]
    simp only
    have h7 := skip_ge isBl l j
    have h8 := skip_le isBl l j h5
    have hs := some_ok isBl _ blank_ok l j h5 hm
    generalize skip isBl l j = b at h7 h8 hs ⊢
    have hq := has_ok l [47] b h8 hm
    rw [pre_one] at hq
    (first | refine run_sealW 40000 hc (by simp; exact Gives.mk) (by simp) ?_ | refine run_seal 40000 hc (by simp; exact Gives.mk) (by simp) ?_)
    repeat' (first | (first | refine Ya ?_ | refine Yb ?_ | refine Yc ?_ | refine Yd ?_ | refine Ye ?_ | refine Yf ?_ | refine Yg ?_ | refine Yh ?_ | refine Yi ?_ | refine Yj ?_ | refine Yk ?_ | refine Yl ?_ | refine Ym ?_ | refine Yn ?_ | refine Yo ?_ | refine Yp (h := ?_) | refine Yq ?_ | refine Yr ?_ | refine Ys ?_ | refine Zr hc (hk := ?_) | refine Zd hc (hk := ?_) | (refine Zc (ht := fun hb => ?_) (hf := fun hb => ?_) <;> (try simp at hb)) | fail) | (first | refine Zw hc (hf := by exact hq) (hk := ?_) | refine Zq hc (hf := by exact hq) (hk := ?_) | refine Zo hc (hk := ?_) | refine Zu hc (hk := ?_) | refine Ze hc (hk := ?_) | refine Zn hc (hk := ?_) | fail) | (first | refine run_callM ([(100000, 100000)]) (hs) hc (by simp; exact Gives.mk) (by simp; exact Gives.mk) (by simp; exact Gives.mk) (by simp; exact Gives.mk) (by simp; exact Gives.mk) rfl (by simp; exact Gives.mk) (by simp; exact Gives.mk) rfl (by simp) (by simp) (by simp; exact Gives.mk) (by simp; exact Gives.mk) ?_ | fail))
    · have hbl : b < l.length := (List.getElem?_eq_some_iff.1 hb).1
      rw [if_pos hb]
      have hg := has_ok l [62] (b + 1) (by omega) hm
      rw [pre_one] at hg
      repeat' (first | (first | refine Ya ?_ | refine Yb ?_ | refine Yc ?_ | refine Yd ?_ | refine Ye ?_ | refine Yf ?_ | refine Yg ?_ | refine Yh ?_ | refine Yi ?_ | refine Yj ?_ | refine Yk ?_ | refine Yl ?_ | refine Ym ?_ | refine Yn ?_ | refine Yo ?_ | refine Yp (h := ?_) | refine Yq ?_ | refine Yr ?_ | refine Ys ?_ | refine Zr hc (hk := ?_) | refine Zd hc (hk := ?_) | (refine Zc (ht := fun hb => ?_) (hf := fun hb => ?_) <;> (try simp at hb)) | fail) | (first | refine Zw hc (hf := by first | exact hg | exact hsm) (hk := ?_) | refine Zq hc (hf := by first | exact hg | exact hsm) (hk := ?_) | refine Zo hc (hk := ?_) | refine Zu hc (hk := ?_) | refine Ze hc (hk := ?_) | refine Zn hc (hk := ?_) | fail))
      · rw [if_neg hb]
        (refine run_leaveM [100000] hc (le_end rfl) (by simp; exact Gives.mk) (by simp; exact Gives.mk) (by first | (simp; done) | (simp; omega)) ?_)
        (first | (simp; done) | (simp; omega))
      · rw [if_pos hb]
        have hbl : b + 1 < l.length := (List.getElem?_eq_some_iff.1 hb).1
        repeat' (first | (first | refine Ya ?_ | refine Yb ?_ | refine Yc ?_ | refine Yd ?_ | refine Ye ?_ | refine Yf ?_ | refine Yg ?_ | refine Yh ?_ | refine Yi ?_ | refine Yj ?_ | refine Yk ?_ | refine Yl ?_ | refine Ym ?_ | refine Yn ?_ | refine Yo ?_ | refine Yp (h := ?_) | refine Yq ?_ | refine Yr ?_ | refine Ys ?_ | refine Zr hc (hk := ?_) | refine Zd hc (hk := ?_) | (refine Zc (ht := fun hb => ?_) (hf := fun hb => ?_) <;> (try simp at hb)) | fail) | (first | refine Zw hc (hf := by first | exact hg | exact hsm) (hk := ?_) | refine Zq hc (hf := by first | exact hg | exact hsm) (hk := ?_) | refine Zo hc (hk := ?_) | refine Zu hc (hk := ?_) | refine Ze hc (hk := ?_) | refine Zn hc (hk := ?_) | fail))
        (refine run_leaveM [100000] hc (le_end rfl) (by simp; exact Gives.mk) (by simp; exact Gives.mk) (by first | (simp; done) | (simp; omega)) ?_)
        (first | (simp; done) | (simp; omega))
    · rw [if_neg hb]
      have hg := has_ok l [62] b (by omega) hm
      rw [pre_one] at hg
      repeat' (first | (first | refine Ya ?_ | refine Yb ?_ | refine Yc ?_ | refine Yd ?_ | refine Ye ?_ | refine Yf ?_ | refine Yg ?_ | refine Yh ?_ | refine Yi ?_ | refine Yj ?_ | refine Yk ?_ | refine Yl ?_ | refine Ym ?_ | refine Yn ?_ | refine Yo ?_ | refine Yp (h := ?_) | refine Yq ?_ | refine Yr ?_ | refine Ys ?_ | refine Zr hc (hk := ?_) | refine Zd hc (hk := ?_) | (refine Zc (ht := fun hb => ?_) (hf := fun hb => ?_) <;> (try simp at hb)) | fail) | (first | refine Zw hc (hf := by first | exact hg | exact hsm) (hk := ?_) | refine Zq hc (hf := by first | exact hg | exact hsm) (hk := ?_) | refine Zo hc (hk := ?_) | refine Zu hc (hk := ?_) | refine Ze hc (hk := ?_) | refine Zn hc (hk := ?_) | fail))
      · rw [if_neg hb]
        (refine run_leaveM [100000] hc (le_end rfl) (by simp; exact Gives.mk) (by simp; exact Gives.mk) (by first | (simp; done) | (simp; omega)) ?_)
        (first | (simp; done) | (simp; omega))
      · rw [if_pos hb]
        have hbl : b < l.length := (List.getElem?_eq_some_iff.1 hb).1
        repeat' (first | (first | refine Ya ?_ | refine Yb ?_ | refine Yc ?_ | refine Yd ?_ | refine Ye ?_ | refine Yf ?_ | refine Yg ?_ | refine Yh ?_ | refine Yi ?_ | refine Yj ?_ | refine Yk ?_ | refine Yl ?_ | refine Ym ?_ | refine Yn ?_ | refine Yo ?_ | refine Yp (h := ?_) | refine Yq ?_ | refine Yr ?_ | refine Ys ?_ | refine Zr hc (hk := ?_) | refine Zd hc (hk := ?_) | (refine Zc (ht := fun hb => ?_) (hf := fun hb => ?_) <;> (try simp at hb)) | fail) | (first | refine Zw hc (hf := by first | exact hg | exact hsm) (hk := ?_) | refine Zq hc (hf := by first | exact hg | exact hsm) (hk := ?_) | refine Zo hc (hk := ?_) | refine Zu hc (hk := ?_) | refine Ze hc (hk := ?_) | refine Zn hc (hk := ?_) | fail))
        (refine run_leaveM [100000] hc (le_end rfl) (by simp; exact Gives.mk) (by simp; exact Gives.mk) (by first | (simp; done) | (simp; omega)) ?_)
        (first | (simp; done) | (simp; omega))
  · have hal2 := hal.2.2 hb
    refine ⟨(q, m ++ [t]), ⟨by simp; omega, by simp; omega, ?_⟩, by simp; omega, run_back [0, 5, 6] [100000, 40000] (by simp; exact Gives.mk) (by simp; exact Gives.mk) (by simp)⟩
    rw [h6, hyes hb]
    simp

/-! Tokens. -/
structure Tk where
  kind : Nat
  fr : Nat
  til : Nat
  name : Bs
  atts : List Atr
abbrev Tk.none : Tk := ⟨0, 0, 0, [], []⟩
@[simp] def attD (t : Tk) : D := if t.kind = 2 then attSl t.atts else nilSl
abbrev encT (t : Tk) : List D := [int t.kind, int t.fr, int t.til, str t.name, attD t]
def tok (l : Bs) (i : Nat) : Option Tk :=
  match cmt l i with
  | some j => some ⟨4, i, j, [], []⟩
  | none => match (shut l i).1 with
    | some r => some ⟨3, i, r.2, r.1, []⟩
    | none => match (opn l i).1 with
      | some r => some ⟨2, i, r.2.2, r.1, r.2.1⟩
      | none => none
@[simp] def tokD : Option Tk → D
  | some t => .tup [.agg (encT t), tru true]
  | none => .tup [.agg (encT .none), tru false]
theorem shut_le {l : Bs} {i : Nat} (hi : i ≤ l.length) : (shut l i).2 ≤ l.length ∧ ∀ r, (shut l i).1 = some r → (shut l i).2 = r.2 ∧ i + 3 < r.2 := by
  unfold shut
  split
  · rename_i h1
    have hl := pre_len hi h1
    simp only [List.length_cons, List.length_nil] at hl
    have h2 := nm_ge inTagB l (i + 2)
    have h3 := nm_le inTagB l (i + 2) (by omega)
    generalize nm inTagB l (i + 2) = e at h2 h3 ⊢
    have h4 := skip_ge isBl l e
    have h5 := skip_le isBl l e h3
    generalize skip isBl l e = b at h4 h5 ⊢
    split
    · rename_i h6
      have h7 : b < l.length := (List.getElem?_eq_some_iff.1 h6.2).1
      refine ⟨by simp; omega, fun r hr => ?_⟩
      obtain rfl := Option.some.inj hr
      simp; omega
    · exact ⟨by simp; omega, fun r hr => by cases hr⟩
  · exact ⟨hi, fun r hr => by cases hr⟩
theorem opn_le {l : Bs} {i : Nat} (hi : i ≤ l.length) : (opn l i).2 ≤ l.length ∧ ∀ r, (opn l i).1 = some r → (opn l i).2 = r.2.2 ∧ i + 2 < r.2.2 ∧ (∀ a ∈ r.2.1, i ≤ a.fr ∧ a.fr ≤ a.til ∧ a.til ≤ r.2.2 ∧ (a.has = false → a.fr = a.til)) ∧ r.2.1.length ≤ l.length := by
  unfold opn
  split
  · rename_i h1
    have hlt : i < l.length := (List.getElem?_eq_some_iff.1 h1).1
    have h2 := nm_ge inTagB l (i + 1)
    have h3 := nm_le inTagB l (i + 1) (by omega)
    generalize nm inTagB l (i + 1) = e at h2 h3 ⊢
    split
    · exact ⟨by simp; omega, fun r hr => by cases hr⟩
    · obtain ⟨h4, h5, h6, h6'⟩ := atts_le l e h3
      generalize atts l e = q at h4 h5 h6 h6' ⊢
      have h7 := skip_ge isBl l q.2
      have h8 := skip_le isBl l q.2 h5
      simp only
      generalize skip isBl l q.2 = b at h7 h8 ⊢
      have h9 : b ≤ (if l[b]? = some 47 then b + 1 else b) ∧ (if l[b]? = some 47 then b + 1 else b) ≤ l.length := by
        split
        · rename_i h; have := (List.getElem?_eq_some_iff.1 h).1; omega
        · omega
      generalize (if l[b]? = some 47 then b + 1 else b) = c at h9 ⊢
      split
      · rename_i h10
        have h11 : c < l.length := (List.getElem?_eq_some_iff.1 h10).1
        refine ⟨by simp; omega, fun r hr => ?_⟩
        obtain rfl := Option.some.inj hr
        refine ⟨rfl, by simp; omega, fun a ha => ?_, by simp; omega⟩
        have := h6 a ha
        exact ⟨by omega, by omega, by simp; omega, this.2.2.2⟩
      · exact ⟨by simp; omega, fun r hr => by cases hr⟩
  · exact ⟨hi, fun r hr => by cases hr⟩
theorem token_ok (l : Bs) (i : Nat) (hi : i ≤ l.length) (hm : l.length ≤ 200000) :
    FnMem Tryz.prog 84 [.bp 100000 0] (scn l i) (.d (tokD (tok l i))) (scn l (((tok l i).map (·.til)).getD i : Nat)) := by
  refine fnMem Tryz.func84 rfl (by kernel_rfl) Tryz.ntmps84 _ rfl (by simp) fun C hc => ?_
  have hc1 := comment_ok l i hi hm
  have hc2 := close_ok l i hi hm
  have hc3 := open_ok l i hi hm
  have hs2 := shut_le (l := l) hi
  have hs3 := opn_le (l := l) hi
  unfold tok
  generalize cmt l i = r at hc1 ⊢
  obtain _ | j := r
  · generalize shut l i = r at hc2 hs2 ⊢
    obtain ⟨_ | r, q⟩ := r
    · generalize opn l i = r at hc3 hs3 ⊢
      obtain ⟨_ | r, q⟩ := r
      · simp only [Option.isSome_none, Option.getD_none, shutD, opnD] at hc1 hc2 hc3 ⊢
        repeat' (first | (first | refine Ya ?_ | refine Yb ?_ | refine Yc ?_ | refine Yd ?_ | refine Ye ?_ | refine Yf ?_ | refine Yg ?_ | refine Yh ?_ | refine Yi ?_ | refine Yj ?_ | refine Yk ?_ | refine Yl ?_ | refine Ym ?_ | refine Yn ?_ | refine Yo ?_ | refine Yp (h := ?_) | refine Yq ?_ | refine Yr ?_ | refine Ys ?_ | refine Zr hc (hk := ?_) | refine Zd hc (hk := ?_) | (refine Zc (ht := fun hb => ?_) (hf := fun hb => ?_) <;> (try simp at hb)) | fail) | (first | refine Zo hc (hk := ?_) | refine Zu hc (hk := ?_) | refine Ze hc (hk := ?_) | refine Zn hc (hk := ?_) | fail) | (first | refine run_callM ([(100000, 100000)]) (hc1) hc (by simp; exact Gives.mk) (by simp; exact Gives.mk) (by simp; exact Gives.mk) (by simp; exact Gives.mk) (by simp; exact Gives.mk) rfl (by simp; exact Gives.mk) (by simp; exact Gives.mk) rfl (by simp) (by simp) (by simp; exact Gives.mk) (by simp; exact Gives.mk) ?_ | fail) | (first | refine run_callM ([(100000, 100000)]) (hc2) hc (by simp; exact Gives.mk) (by simp; exact Gives.mk) (by simp; exact Gives.mk) (by simp; exact Gives.mk) (by simp; exact Gives.mk) rfl (by simp; exact Gives.mk) (by simp; exact Gives.mk) rfl (by simp) (by simp) (by simp; exact Gives.mk) (by simp; exact Gives.mk) ?_ | fail) | (first | refine run_callM ([(100000, 100000)]) (hc3) hc (by simp; exact Gives.mk) (by simp; exact Gives.mk) (by simp; exact Gives.mk) (by simp; exact Gives.mk) (by simp; exact Gives.mk) rfl (by simp; exact Gives.mk) (by simp; exact Gives.mk) rfl (by simp) (by simp) (by simp; exact Gives.mk) (by simp; exact Gives.mk) ?_ | fail))
        all_goals try contradiction
        (refine run_leaveM [100000] hc (le_end rfl) (by simp; exact Gives.mk) (by simp; exact Gives.mk) (by first | (simp; done) | (simp; omega)) ?_)
        (first | (simp; done) | (simp; omega))
      · obtain ⟨h1, h2, _⟩ := hs3.2 r rfl
        simp only at h1
        subst h1
        simp only [Option.isSome_none, Option.getD_none, shutD, opnD] at hc1 hc2 hc3 ⊢
        repeat' (first | (first | refine Ya ?_ | refine Yb ?_ | refine Yc ?_ | refine Yd ?_ | refine Ye ?_ | refine Yf ?_ | refine Yg ?_ | refine Yh ?_ | refine Yi ?_ | refine Yj ?_ | refine Yk ?_ | refine Yl ?_ | refine Ym ?_ | refine Yn ?_ | refine Yo ?_ | refine Yp (h := ?_) | refine Yq ?_ | refine Yr ?_ | refine Ys ?_ | refine Zr hc (hk := ?_) | refine Zd hc (hk := ?_) | (refine Zc (ht := fun hb => ?_) (hf := fun hb => ?_) <;> (try simp at hb)) | fail) | (first | refine Zo hc (hk := ?_) | refine Zu hc (hk := ?_) | refine Ze hc (hk := ?_) | refine Zn hc (hk := ?_) | fail) | (first | refine run_callM ([(100000, 100000)]) (hc1) hc (by simp; exact Gives.mk) (by simp; exact Gives.mk) (by simp; exact Gives.mk) (by simp; exact Gives.mk) (by simp; exact Gives.mk) rfl (by simp; exact Gives.mk) (by simp; exact Gives.mk) rfl (by simp) (by simp) (by simp; exact Gives.mk) (by simp; exact Gives.mk) ?_ | fail) | (first | refine run_callM ([(100000, 100000)]) (hc2) hc (by simp; exact Gives.mk) (by simp; exact Gives.mk) (by simp; exact Gives.mk) (by simp; exact Gives.mk) (by simp; exact Gives.mk) rfl (by simp; exact Gives.mk) (by simp; exact Gives.mk) rfl (by simp) (by simp) (by simp; exact Gives.mk) (by simp; exact Gives.mk) ?_ | fail) | (first | refine run_callM ([(100000, 100000)]) (hc3) hc (by simp; exact Gives.mk) (by simp; exact Gives.mk) (by simp; exact Gives.mk) (by simp; exact Gives.mk) (by simp; exact Gives.mk) rfl (by simp; exact Gives.mk) (by simp; exact Gives.mk) rfl (by simp) (by simp) (by simp; exact Gives.mk) (by simp; exact Gives.mk) ?_ | fail))
        all_goals try contradiction
        (refine run_leaveM [100000] hc (le_end rfl) (by simp; exact Gives.mk) (by simp; exact Gives.mk) (by first | (simp; done) | (simp; omega)) ?_)
        (first | (simp; done) | (simp; omega))
    · obtain ⟨h1, h2⟩ := hs2.2 r rfl
      simp only at h1
      subst h1
      simp only [Option.isSome_none, Option.getD_none, shutD, opnD] at hc1 hc2 ⊢
      repeat' (first | (first | refine Ya ?_ | refine Yb ?_ | refine Yc ?_ | refine Yd ?_ | refine Ye ?_ | refine Yf ?_ | refine Yg ?_ | refine Yh ?_ | refine Yi ?_ | refine Yj ?_ | refine Yk ?_ | refine Yl ?_ | refine Ym ?_ | refine Yn ?_ | refine Yo ?_ | refine Yp (h := ?_) | refine Yq ?_ | refine Yr ?_ | refine Ys ?_ | refine Zr hc (hk := ?_) | refine Zd hc (hk := ?_) | (refine Zc (ht := fun hb => ?_) (hf := fun hb => ?_) <;> (try simp at hb)) | fail) | (first | refine Zo hc (hk := ?_) | refine Zu hc (hk := ?_) | refine Ze hc (hk := ?_) | refine Zn hc (hk := ?_) | fail) | (first | refine run_callM ([(100000, 100000)]) (hc1) hc (by simp; exact Gives.mk) (by simp; exact Gives.mk) (by simp; exact Gives.mk) (by simp; exact Gives.mk) (by simp; exact Gives.mk) rfl (by simp; exact Gives.mk) (by simp; exact Gives.mk) rfl (by simp) (by simp) (by simp; exact Gives.mk) (by simp; exact Gives.mk) ?_ | fail) | (first | refine run_callM ([(100000, 100000)]) (hc2) hc (by simp; exact Gives.mk) (by simp; exact Gives.mk) (by simp; exact Gives.mk) (by simp; exact Gives.mk) (by simp; exact Gives.mk) rfl (by simp; exact Gives.mk) (by simp; exact Gives.mk) rfl (by simp) (by simp) (by simp; exact Gives.mk) (by simp; exact Gives.mk) ?_ | fail))
      all_goals try contradiction
      (refine run_leaveM [100000] hc (le_end rfl) (by simp; exact Gives.mk) (by simp; exact Gives.mk) (by first | (simp; done) | (simp; omega)) ?_)
      (first | (simp; done) | (simp; omega))
  · simp only [Option.isSome_some, Option.getD_some] at hc1 ⊢
    repeat' (first | (first | refine Ya ?_ | refine Yb ?_ | refine Yc ?_ | refine Yd ?_ | refine Ye ?_ | refine Yf ?_ | refine Yg ?_ | refine Yh ?_ | refine Yi ?_ | refine Yj ?_ | refine Yk ?_ | refine Yl ?_ | refine Ym ?_ | refine Yn ?_ | refine Yo ?_ | refine Yp (h := ?_) | refine Yq ?_ | refine Yr ?_ | refine Ys ?_ | refine Zr hc (hk := ?_) | refine Zd hc (hk := ?_) | (refine Zc (ht := fun hb => ?_) (hf := fun hb => ?_) <;> (try simp at hb)) | fail) | (first | refine Zo hc (hk := ?_) | refine Zu hc (hk := ?_) | refine Ze hc (hk := ?_) | refine Zn hc (hk := ?_) | fail) | (first | refine run_callM ([(100000, 100000)]) (hc1) hc (by simp; exact Gives.mk) (by simp; exact Gives.mk) (by simp; exact Gives.mk) (by simp; exact Gives.mk) (by simp; exact Gives.mk) rfl (by simp; exact Gives.mk) (by simp; exact Gives.mk) rfl (by simp) (by simp) (by simp; exact Gives.mk) (by simp; exact Gives.mk) ?_ | fail))
    all_goals try contradiction
    (refine run_leaveM [100000] hc (le_end rfl) (by simp; exact Gives.mk) (by simp; exact Gives.mk) (by first | (simp; done) | (simp; omega)) ?_)
    (first | (simp; done) | (simp; omega))
end Go.Proofs.YtjbabjfmcganpaaGreatDoor
/-
  PAGE: raw texts, and the page divided. (WITH run_drawN.)
-/
set_option linter.unusedSimpArgs false
set_option linter.unusedVariables false
namespace Go.Proofs.YtjbabjfmcganpaaGreatDoor
open Go.Lw
set_option maxRecDepth 100000
set_option maxHeartbeats 1000000

def rawName (n : Bs) : Bool := decide (n = [115, 99, 114, 105, 112, 116]) || decide (n = [115, 116, 121, 108, 101]) || decide (n = [116, 105, 116, 108, 101])
def rawB (l : Bs) (t : Tk) : Bool := decide (t.kind = 2) && rawName t.name && decide ((l[t.til - 2]?.getD 0).toNat ≠ 47)
theorem isRaw_ok (l : Bs) (i : Nat) (t : Tk) (ht : t.kind = 2 → 2 ≤ t.til ∧ t.til ≤ l.length) (hm : l.length ≤ 200000) : FnOk Tryz.prog 85 [scnP l i, .agg (encT t)] (tru (rawB l t)) := by
  refine fnOk Tryz.func85 rfl (by kernel_rfl) Tryz.ntmps85 _ rfl (by simp) fun C hc => ?_
  obtain ⟨k, f, e, n, m⟩ := t
  by_cases hk : k = 2
  · subst hk
    obtain ⟨h1, h2⟩ := ht rfl
    simp only at h1 h2
    simp only [encT, attD, if_true]
    repeat' (first | (first | refine Ya ?_ | refine Yb ?_ | refine Yc ?_ | refine Yd ?_ | refine Ye ?_ | refine Yf ?_ | refine Yg ?_ | refine Yh ?_ | refine Yi ?_ | refine Yj ?_ | refine Yk ?_ | refine Yl ?_ | refine Ym ?_ | refine Yn ?_ | refine Yo ?_ | refine Yp (h := ?_) | refine Yq ?_ | refine Yr ?_ | refine Ys ?_ | refine Zr hc (hk := ?_) | refine Zd hc (hk := ?_) | (refine Zc (ht := fun hb => ?_) (hf := fun hb => ?_) <;> (try simp at hb)) | fail) | (first | refine Zo hc (hk := ?_) | refine Zu hc (hk := ?_) | refine Ze hc (hk := ?_) | refine Zn hc (hk := ?_) | fail))
    (refine Zl hc (hr := ?_))
    refine res_bool ?_
    rw [Bool.eq_iff_iff]; simp [rawB, rawName]; omega
  · simp only [encT, attD, hk, if_false]
    repeat' (first | (first | refine Ya ?_ | refine Yb ?_ | refine Yc ?_ | refine Yd ?_ | refine Ye ?_ | refine Yf ?_ | refine Yg ?_ | refine Yh ?_ | refine Yi ?_ | refine Yj ?_ | refine Yk ?_ | refine Yl ?_ | refine Ym ?_ | refine Yn ?_ | refine Yo ?_ | refine Yp (h := ?_) | refine Yq ?_ | refine Yr ?_ | refine Ys ?_ | refine Zr hc (hk := ?_) | refine Zd hc (hk := ?_) | (refine Zc (ht := fun hb => ?_) (hf := fun hb => ?_) <;> (try simp at hb)) | fail) | (first | refine Zo hc (hk := ?_) | refine Zu hc (hk := ?_) | refine Ze hc (hk := ?_) | refine Zn hc (hk := ?_) | fail))
    (refine Zl hc (hr := ?_))
    refine res_bool ?_
    rw [Bool.eq_iff_iff]; simp [rawB, rawName, hk]; omega
def rawAt (l : Bs) (i : Nat) (n : Bs) : Bool := [60, 47].isPrefixOf (l.drop i) && decide (i + 2 + n.length < l.length) && decide (small ((l.take (i + 2 + n.length)).drop (i + 2)) = n) && (decide ((l[i + 2 + n.length]?.getD 0).toNat = 62) || isBl (l[i + 2 + n.length]?.getD 0))
def rawE (l : Bs) (i : Nat) (n : Bs) : Nat := if i < l.length then (if rawAt l i n = true then i else rawE l (i + 1) n) else l.length
termination_by l.length - i
theorem rawE_le (l : Bs) (i : Nat) (n : Bs) (hi : i ≤ l.length) : i ≤ rawE l i n ∧ rawE l i n ≤ l.length := by
  rw [rawE]
  split
  · split
    · omega
    · have := rawE_le l (i + 1) n (by omega)
      omega
  · omega
termination_by l.length - i
theorem rawEnd_ok (l n : Bs) (i : Nat) (hi : i ≤ l.length) (hm : l.length ≤ 200000) (hn : n.length ≤ 200000) : FnOk Tryz.prog 86 [scnP l i, str n] (int (rawE l i n)) := by
  refine fnOk Tryz.func86 rfl (by kernel_rfl) Tryz.ntmps86 _ rfl (by simp) fun C hc => ?_
  repeat' (first | refine Ya ?_ | refine Yb ?_ | refine Yc ?_ | refine Yd ?_ | refine Ye ?_ | refine Yf ?_ | refine Yg ?_ | refine Yh ?_ | refine Yi ?_ | refine Yj ?_ | refine Yk ?_ | refine Yl ?_ | refine Ym ?_ | refine Yn ?_ | refine Yo ?_ | refine Yp (h := ?_) | refine Yq ?_ | refine Yr ?_ | refine Ys ?_ | refine Zr hc (hk := ?_) | refine Zd hc (hk := ?_) | (refine Zc (ht := fun hb => ?_) (hf := fun hb => ?_) <;> (try simp at hb)) | fail)
  refine ewp_loop (fun j : Nat => ⟨[(0, .d (scnP l i)), (1, .d (str n)), (5, .d (int j))], []⟩) (fun j => i ≤ j ∧ j ≤ l.length ∧ rawE l i n = rawE l j n) (fun j => l.length - j) i (by simp; omega) (run_keep [0, 1, 5] [] (by simp; exact Gives.mk) (by simp; exact Gives.mk)) ?_
  rintro j ⟨h1, h2, h3⟩
  have h4 : rawE l j n = if j < l.length then (if rawAt l j n = true then j else rawE l (j + 1) n) else l.length := by rw [rawE]
  have hp := fun h => pre_len (p := [60, 47]) (l := l) (i := j) h2 h
  simp only [List.length_cons, List.length_nil] at hp
  have hsm := fun h : (l.take (j + 2 + n.length)).length ≤ 200000 => small_ok ((l.take (j + 2 + n.length)).drop (j + 2)) (by simp at h ⊢; omega)
  repeat' (first | (first | refine Ya ?_ | refine Yb ?_ | refine Yc ?_ | refine Yd ?_ | refine Ye ?_ | refine Yf ?_ | refine Yg ?_ | refine Yh ?_ | refine Yi ?_ | refine Yj ?_ | refine Yk ?_ | refine Yl ?_ | refine Ym ?_ | refine Yn ?_ | refine Yo ?_ | refine Yp (h := ?_) | refine Yq ?_ | refine Yr ?_ | refine Ys ?_ | refine Zr hc (hk := ?_) | refine Zd hc (hk := ?_) | (refine Zc (ht := fun hb => ?_) (hf := fun hb => ?_) <;> (try simp at hb)) | fail) | (first | refine Zw hc (hf := by first | exact hasPrefix_ok _ _ | exact blank_ok _ | exact small_ok _ (by simp; omega)) (hk := ?_) | refine Zq hc (hf := by first | exact hasPrefix_ok _ _ | exact blank_ok _ | exact small_ok _ (by simp; omega)) (hk := ?_) | refine Zo hc (hk := ?_) | refine Zu hc (hk := ?_) | refine Ze hc (hk := ?_) | refine Zn hc (hk := ?_) | fail))
  · have eT : ((j : Int) + 2 + (n.length : Int)).toNat = j + 2 + n.length := by omega
    rw [eT] at hb
    have hr : rawAt l j n = true := by
      simp only [rawAt, Bool.and_eq_true, Bool.or_eq_true, decide_eq_true_eq, List.isPrefixOf_iff_prefix]
      exact ⟨⟨⟨hb.1.1.1, by omega⟩, hb.1.2⟩, hb.2.imp (fun h => by omega) id⟩
    rw [h3, h4, if_pos (by assumption), if_pos hr]
    (refine Zl hc (hr := ?_))
    simp
  · have eT : ((j : Int) + 2 + (n.length : Int)).toNat = j + 2 + n.length := by omega
    rw [eT] at hb
    have hr : ¬ rawAt l j n = true := by
      intro hr
      simp only [rawAt, Bool.and_eq_true, Bool.or_eq_true, decide_eq_true_eq, List.isPrefixOf_iff_prefix] at hr
      have := hb hr.1.1.1 (by omega) hr.1.2
      rcases hr.2 with h | h
      · omega
      · rw [this.2] at h; cases h
    refine ⟨j + 1, ⟨by omega, by omega, ?_⟩, by omega, run_back [0, 1, 5] [] (by simp; exact Gives.mk) (by simp; exact Gives.mk) (by simp)⟩
    rw [h3, h4, if_pos (by assumption), if_neg hr]
  · rw [h3, h4, if_neg (by omega)]
    (refine Zl hc (hr := ?_))
    simp
end Go.Proofs.YtjbabjfmcganpaaGreatDoor
/-
  PAGE: the page divided into tokens. (WITH run_drawN.)
-/
set_option linter.unusedSimpArgs false
set_option linter.unusedVariables false
namespace Go.Proofs.YtjbabjfmcganpaaGreatDoor
open Go.Lw
set_option maxRecDepth 100000
set_option maxHeartbeats 1000000

@[simp] theorem take_two {α β : Type} (f : α → β) (m x : List α) : List.take (m.length + x.length) (List.map f m ++ List.map f x) = List.map f m ++ List.map f x := List.take_of_length_le (by simp)
def txt (a b : Nat) : List Tk := if a < b then [⟨1, a, b, [], []⟩] else []
abbrev dfT : List D := [.lit (.int .i64 0), .lit (.int .i64 0), .lit (.int .i64 0), .lit (.string (bs [])), .lit (.slice none 0 0)]
abbrev outO (x y : Nat) (m : List Tk) : List (Nat × O) := [(x, .box 42 [.os y m.length]), (y, .own 96 5 (true, dfT) (m.map encT))]
theorem pgText_ok (a b : Nat) (m : List Tk) (hm : m.length ≤ 300000) (hb : b ≤ 200000) (ha : a ≤ 200000) :
    FnMem Tryz.prog 83 [.d (int a), .d (int b), .bp 100000 0] (outO 100000 50001 m) (.d (.tup [])) (outO 100000 50001 (m ++ txt a b)) := by
  refine fnMem Tryz.func83 rfl (by kernel_rfl) Tryz.ntmps83 _ rfl (by simp) fun C hc => ?_
  unfold txt
  repeat' (first | (first | refine Ya ?_ | refine Yb ?_ | refine Yc ?_ | refine Yd ?_ | refine Ye ?_ | refine Yf ?_ | refine Yg ?_ | refine Yh ?_ | refine Yi ?_ | refine Yj ?_ | refine Yk ?_ | refine Yl ?_ | refine Ym ?_ | refine Yn ?_ | refine Yo ?_ | refine Yp (h := ?_) | refine Yq ?_ | refine Yr ?_ | refine Ys ?_ | refine Zr hc (hk := ?_) | refine Zd hc (hk := ?_) | (refine Zc (ht := fun hb => ?_) (hf := fun hb => ?_) <;> (try simp at hb)) | fail) | (first | refine Zo hc (hk := ?_) | refine Zu hc (hk := ?_) | refine Ze hc (hk := ?_) | refine Zn hc (hk := ?_) | fail))
  · rw [if_pos hb]
    (refine run_leaveM_end [100000, 50001] hc (le_end rfl) (by simp; exact Gives.mk) (by simp; exact Gives.mk) (by first | (simp; done) | (simp; omega)) ?_)
    simp
  · rw [if_neg (by omega)]
    (refine run_leaveM_end [100000, 50001] hc (le_end rfl) (by simp; exact Gives.mk) (by simp; exact Gives.mk) (by first | (simp; done) | (simp; omega)) ?_)
    simp

/-! What is still to come. -/
theorem shut_name {l : Bs} {i : Nat} {r : Bs × Nat} (h : (shut l i).1 = some r) : r.1.length ≤ l.length := by
  unfold shut at h
  split at h
  · split at h
    · obtain rfl := Option.some.inj h
      simp; omega
    · cases h
  · cases h
theorem opn_name {l : Bs} {i : Nat} {r : Bs × List Atr × Nat} (h : (opn l i).1 = some r) : r.1.length ≤ l.length := by
  unfold opn at h
  split at h
  · split at h
    · cases h
    · simp only at h
      split at h
      · split at h
        · obtain rfl := Option.some.inj h
          simp; omega
        · cases h
      · split at h
        · obtain rfl := Option.some.inj h
          simp; omega
        · cases h
  · cases h
theorem tok_le {l : Bs} {i : Nat} {t : Tk} (hi : i ≤ l.length) (h : tok l i = some t) : i + 1 ≤ t.til ∧ t.til ≤ l.length ∧ t.fr = i ∧ (t.kind = 2 → 2 ≤ t.til) ∧ t.name.length ≤ l.length ∧ (∀ a ∈ t.atts, i ≤ a.fr ∧ a.fr ≤ a.til ∧ a.til ≤ t.til ∧ (a.has = false → a.fr = a.til)) := by
  unfold tok at h
  have h1 := fun j => cmt_le (l := l) (i := i) (j := j) hi
  have h2 := shut_le (l := l) hi
  have h3 := opn_le (l := l) hi
  split at h
  · rename_i j hj
    obtain rfl := Option.some.inj h
    have := h1 j hj
    simp; omega
  · split at h
    · rename_i r hr
      obtain rfl := Option.some.inj h
      have h4 := h2.2 r hr
      have h5 := shut_name hr
      refine ⟨by simp; omega, by simp; omega, rfl, by simp, h5, by simp⟩
    · split at h
      · rename_i r hr
        obtain rfl := Option.some.inj h
        have h4 := h3.2 r hr
        have h5 := opn_name hr
        exact ⟨by simp; omega, by simp; omega, rfl, by simp; omega, h5, h4.2.2.1⟩
      · cases h
def parts (l : Bs) (fr i : Nat) : List Tk :=
  if h : i < l.length then
    match ht : tok l i with
    | none => parts l fr (i + 1)
    | some t =>
      if rawB l t = true then txt fr i ++ t :: (txt t.til (rawE l t.til t.name) ++ parts l (rawE l t.til t.name) (rawE l t.til t.name))
      else txt fr i ++ t :: parts l t.til t.til
  else txt fr l.length
termination_by l.length - i
decreasing_by
  · omega
  · have h1 := tok_le (by omega) ht
    have h2 := rawE_le l t.til t.name h1.2.1
    omega
  · have h1 := tok_le (by omega) ht
    omega
/-- So goes the page: it stops where there are too many. -/
def run (l : Bs) (fr i : Nat) (m : List Tk) : List Tk :=
  if h : i < l.length ∧ m.length ≤ 20000 then
    match ht : tok l i with
    | none => run l fr (i + 1) m
    | some t =>
      if rawB l t = true then run l (rawE l t.til t.name) (rawE l t.til t.name) (m ++ txt fr i ++ t :: txt t.til (rawE l t.til t.name))
      else run l t.til t.til (m ++ txt fr i ++ [t])
  else m ++ txt fr l.length
termination_by l.length - i
decreasing_by
  · omega
  · have h1 := tok_le (by omega) ht
    have h2 := rawE_le l t.til t.name h1.2.1
    omega
  · have h1 := tok_le (by omega) ht
    omega
theorem run_none {l : Bs} {fr i : Nat} {m : List Tk} (h : i < l.length) (hm : m.length ≤ 20000) (ht : tok l i = none) : run l fr i m = run l fr (i + 1) m := by
  rw [run, dif_pos ⟨h, hm⟩]
  split
  · rfl
  · rename_i t h'; rw [ht] at h'; cases h'
theorem run_some {l : Bs} {fr i : Nat} {m : List Tk} {t : Tk} (h : i < l.length) (hm : m.length ≤ 20000) (ht : tok l i = some t) : run l fr i m = if rawB l t = true then run l (rawE l t.til t.name) (rawE l t.til t.name) (m ++ txt fr i ++ t :: txt t.til (rawE l t.til t.name)) else run l t.til t.til (m ++ txt fr i ++ [t]) := by
  rw [run, dif_pos ⟨h, hm⟩]
  split
  · rename_i h'; rw [ht] at h'; cases h'
  · rename_i t' h'
    rw [ht] at h'
    cases h'
    rfl
theorem run_end {l : Bs} {fr i : Nat} {m : List Tk} (h : ¬ (i < l.length ∧ m.length ≤ 20000)) : run l fr i m = m ++ txt fr l.length := by rw [run, dif_neg h]
theorem tok_lt {l : Bs} {i : Nat} (h : l[i]? ≠ some 60) : tok l i = none := by
  have h0 : ∀ p : Bs, (60 :: p).isPrefixOf (l.drop i) = false := by
    intro p
    by_cases hi : i < l.length
    · rw [List.drop_eq_getElem_cons hi]
      rw [List.getElem?_eq_getElem hi] at h
      have : ((60 : UInt8) == l[i]) = false := by
        rw [beq_eq_false_iff_ne]
        exact fun e => h (by rw [e])
      simp [List.isPrefixOf, this]
    · rw [List.drop_of_length_le (by omega)]
      rfl
  have e1 : cmt l i = none := by unfold cmt; rw [h0]; simp
  have e2 : (shut l i).1 = none := by unfold shut; rw [h0]; simp
  have e3 : (opn l i).1 = none := by unfold opn; rw [if_neg h]
  unfold tok
  rw [e1, e2, e3]
theorem txt_len (a b : Nat) : (txt a b).length ≤ 1 := by unfold txt; split <;> simp
abbrev tokSl (m : List Tk) : D := .sl m.length fun i => encT (m[i]?.getD .none)
@[simp] theorem getD_encT (o : Option Tk) : (Option.map encT o).getD dfT = encT (o.getD .none) := by cases o <;> rfl
theorem tokens_ok (l : Bs) (hm : l.length ≤ 200000) : FnOk Tryz.prog 51 [str l] (.tup [tokSl (run l 0 0 []), tru (decide ((run l 0 0 []).length ≤ 20000))]) := by
  refine fnOk Tryz.func51 rfl (by kernel_rfl) Tryz.ntmps51 _ rfl (by simp) fun C hc => ?_
  repeat' (first | refine Ya ?_ | refine Yb ?_ | refine Yc ?_ | refine Yd ?_ | refine Ye ?_ | refine Yf ?_ | refine Yg ?_ | refine Yh ?_ | refine Yi ?_ | refine Yj ?_ | refine Yk ?_ | refine Yl ?_ | refine Ym ?_ | refine Yn ?_ | refine Yo ?_ | refine Yp (h := ?_) | refine Yq ?_ | refine Yr ?_ | refine Ys ?_ | refine Zr hc (hk := ?_) | refine Zd hc (hk := ?_) | (refine Zc (ht := fun hb => ?_) (hf := fun hb => ?_) <;> (try simp at hb)) | fail)
  refine ewp_loop (fun x : Nat × Nat × List Tk => ⟨[(0, .d (str l)), (4, .bp 14 0), (5, .bp 5 0), (6, .vclo (.func 83) [.bp 5 0]), (7, .d (int x.2.1))], [(14, .box 86 [.d (str l), .d (int x.1)]), (5, .box 42 [.os 40000 x.2.2.length]), (40000, .own 96 5 (true, dfT) (x.2.2.map encT))]⟩)
    (fun x => x.1 ≤ l.length ∧ x.2.1 ≤ l.length ∧ x.2.2.length ≤ 20003 ∧ run l 0 0 [] = run l x.2.1 x.1 x.2.2) (fun x => l.length - x.1) (0, 0, []) (by simp) (run_keepB [(5, some 0, 40000, 96, dfT)] [0, 4, 5, 6, 7] [14, 5, 40000] (by simp; exact Gives.mk) (by simp; exact Gives.mk) (by simp; exact Gives.mk)) ?_
  rintro ⟨i, fr, m⟩ ⟨h1, h2, h3, h4⟩
  simp only at h1 h2 h3 h4 ⊢
  repeat' (first | refine Ya ?_ | refine Yb ?_ | refine Yc ?_ | refine Yd ?_ | refine Ye ?_ | refine Yf ?_ | refine Yg ?_ | refine Yh ?_ | refine Yi ?_ | refine Yj ?_ | refine Yk ?_ | refine Yl ?_ | refine Ym ?_ | refine Yn ?_ | refine Yo ?_ | refine Yp (h := ?_) | refine Yq ?_ | refine Yr ?_ | refine Ys ?_ | refine Zr hc (hk := ?_) | refine Zd hc (hk := ?_) | (refine Zc (ht := fun hb => ?_) (hf := fun hb => ?_) <;> (try simp at hb)) | fail)
  · have ht : tok l i = none := tok_lt (by
      intro e
      rw [e] at hb
      simp at hb)
    have hx : i < l.length := by omega
    exact ⟨(i + 1, fr, m), ⟨by simp; omega, h2, h3, by rw [h4, run_none hx (by omega) ht]⟩, by simp; omega, run_back [0, 4, 5, 6, 7] [14, 5, 40000] (by simp; exact Gives.mk) (by simp; exact Gives.mk) (by simp)⟩
  · have htk := token_ok l i h1 hm
    have hle := fun t => tok_le (l := l) (i := i) (t := t) h1
    have hno := fun h2 h3 h => run_none (l := l) (fr := fr) (i := i) (m := m) h2 h3 h
    have hso := fun t h2 h3 h => run_some (l := l) (fr := fr) (i := i) (m := m) (t := t) h2 h3 h
    generalize tok l i = t at htk hle hno hso
    obtain _ | t := t
    · simp only [tokD, Option.map_none, Option.getD_none] at htk
      repeat' (first | (first | refine Ya ?_ | refine Yb ?_ | refine Yc ?_ | refine Yd ?_ | refine Ye ?_ | refine Yf ?_ | refine Yg ?_ | refine Yh ?_ | refine Yi ?_ | refine Yj ?_ | refine Yk ?_ | refine Yl ?_ | refine Ym ?_ | refine Yn ?_ | refine Yo ?_ | refine Yp (h := ?_) | refine Yq ?_ | refine Yr ?_ | refine Ys ?_ | refine Zr hc (hk := ?_) | refine Zd hc (hk := ?_) | (refine Zc (ht := fun hb => ?_) (hf := fun hb => ?_) <;> (try simp at hb)) | fail) | (first | refine Zo hc (hk := ?_) | refine Zu hc (hk := ?_) | refine Ze hc (hk := ?_) | refine Zn hc (hk := ?_) | fail) | (first | refine run_callM ([(100000, 14)]) (htk) hc (by simp; exact Gives.mk) (by simp; exact Gives.mk) (by simp; exact Gives.mk) (by simp; exact Gives.mk) (by simp; exact Gives.mk) rfl (by simp; exact Gives.mk) (by simp; exact Gives.mk) rfl (by simp) (by simp) (by simp; exact Gives.mk) (by simp; exact Gives.mk) ?_ | fail))
      all_goals try contradiction
      exact ⟨(i + 1, fr, m), ⟨by simp; omega, h2, h3, by rw [h4, hno (by omega) (by omega) rfl]⟩, by simp; omega, run_back [0, 4, 5, 6, 7] [14, 5, 40000] (by simp; exact Gives.mk) (by simp; exact Gives.mk) (by simp)⟩
    · obtain ⟨h5, h6, h7, h8, h9, h10⟩ := hle t rfl
      have hr := hso t (by omega) (by omega) rfl
      have htl := txt_len fr i
      have hx := pgText_ok fr i m (by omega) (by omega) (by omega)
      simp only [tokD, Option.map_some, Option.getD_some] at htk
      have hraw := isRaw_ok l t.til t (fun h => ⟨h8 h, h6⟩) hm
      have hend := rawEnd_ok l t.name t.til h6 hm (by omega)
      have hre := rawE_le l t.til t.name h6
      have hx2 := pgText_ok t.til (rawE l t.til t.name) (m ++ txt fr i ++ [t]) (by simp; omega) (by omega) (by omega)
      have htl2 := txt_len t.til (rawE l t.til t.name)
      have hk : attD t = attSl t.atts ∨ attD t = nilSl := by unfold attD; split <;> simp
      rcases hk with ha | ha
      · have ha' : (if t.kind = 2 then attSl t.atts else nilSl) = _ := ha
        simp only [encT, ha] at htk hraw
        simp only [outO, List.map_append, List.map_cons, List.map_nil, List.length_append, List.length_cons, List.length_nil, encT, ha] at hx2
        repeat' (first | (first | refine Ya ?_ | refine Yb ?_ | refine Yc ?_ | refine Yd ?_ | refine Ye ?_ | refine Yf ?_ | refine Yg ?_ | refine Yh ?_ | refine Yi ?_ | refine Yj ?_ | refine Yk ?_ | refine Yl ?_ | refine Ym ?_ | refine Yn ?_ | refine Yo ?_ | refine Yp (h := ?_) | refine Yq ?_ | refine Yr ?_ | refine Ys ?_ | refine Zr hc (hk := ?_) | refine Zd hc (hk := ?_) | (refine Zc (ht := fun hb => ?_) (hf := fun hb => ?_) <;> (try simp at hb)) | fail) | (first | refine Zw hc (hf := by first | exact hraw | exact hend) (hk := ?_) | refine Zq hc (hf := by first | exact hraw | exact hend) (hk := ?_) | refine Zo hc (hk := ?_) | refine Zu hc (hk := ?_) | refine Ze hc (hk := ?_) | refine Zn hc (hk := ?_) | fail) | (first | refine run_callM ([(100000, 14)]) (htk) hc (by simp; exact Gives.mk) (by simp; exact Gives.mk) (by simp; exact Gives.mk) (by simp; exact Gives.mk) (by simp; exact Gives.mk) rfl (by simp; exact Gives.mk) (by simp; exact Gives.mk) rfl (by simp) (by simp) (by simp; exact Gives.mk) (by simp; exact Gives.mk) ?_ | fail) | (first | refine run_callM ([(100000, 5), (50001, 40000)]) (hx) hc (by simp; exact Gives.mk) (by simp; exact Gives.mk) (by simp; exact Gives.mk) (by simp; exact Gives.mk) (by simp; exact Gives.mk) rfl (by simp; exact Gives.mk) (by simp; exact Gives.mk) rfl (by simp) (by simp) (by simp; exact Gives.mk) (by simp; exact Gives.mk) ?_ | fail) | (first | refine run_callM ([(100000, 5), (50001, 40000)]) (hx2) hc (by simp; exact Gives.mk) (by simp; exact Gives.mk) (by simp; exact Gives.mk) (by simp; exact Gives.mk) (by simp; exact Gives.mk) rfl (by simp; exact Gives.mk) (by simp; exact Gives.mk) rfl (by simp) (by simp) (by simp; exact Gives.mk) (by simp; exact Gives.mk) ?_ | fail))
        · refine ⟨(rawE l t.til t.name, rawE l t.til t.name, m ++ txt fr i ++ t :: txt t.til (rawE l t.til t.name)), ⟨by simp; omega, by simp; omega, by simp; omega, by rw [h4, hr, if_pos hb]⟩, by simp; omega, run_back [0, 4, 5, 6, 7] [14, 5, 40000] (by simp; exact Gives.mk) (by simp; exact Gives.mk) (by first | (simp [encT, ha', Nat.add_assoc]; done) | (simp [encT, ha', Nat.add_assoc]; omega))⟩
        · refine ⟨(t.til, t.til, m ++ txt fr i ++ [t]), ⟨by simp; omega, by simp; omega, by simp; omega, by rw [h4, hr, if_neg (by simpa using hb)]⟩, by simp; omega, run_back [0, 4, 5, 6, 7] [14, 5, 40000] (by simp; exact Gives.mk) (by simp; exact Gives.mk) (by first | (simp [encT, ha', Nat.add_assoc]; done) | (simp [encT, ha', Nat.add_assoc]; omega))⟩
      · have ha' : (if t.kind = 2 then attSl t.atts else nilSl) = _ := ha
        simp only [encT, ha] at htk hraw
        simp only [outO, List.map_append, List.map_cons, List.map_nil, List.length_append, List.length_cons, List.length_nil, encT, ha] at hx2
        repeat' (first | (first | refine Ya ?_ | refine Yb ?_ | refine Yc ?_ | refine Yd ?_ | refine Ye ?_ | refine Yf ?_ | refine Yg ?_ | refine Yh ?_ | refine Yi ?_ | refine Yj ?_ | refine Yk ?_ | refine Yl ?_ | refine Ym ?_ | refine Yn ?_ | refine Yo ?_ | refine Yp (h := ?_) | refine Yq ?_ | refine Yr ?_ | refine Ys ?_ | refine Zr hc (hk := ?_) | refine Zd hc (hk := ?_) | (refine Zc (ht := fun hb => ?_) (hf := fun hb => ?_) <;> (try simp at hb)) | fail) | (first | refine Zw hc (hf := by first | exact hraw | exact hend) (hk := ?_) | refine Zq hc (hf := by first | exact hraw | exact hend) (hk := ?_) | refine Zo hc (hk := ?_) | refine Zu hc (hk := ?_) | refine Ze hc (hk := ?_) | refine Zn hc (hk := ?_) | fail) | (first | refine run_callM ([(100000, 14)]) (htk) hc (by simp; exact Gives.mk) (by simp; exact Gives.mk) (by simp; exact Gives.mk) (by simp; exact Gives.mk) (by simp; exact Gives.mk) rfl (by simp; exact Gives.mk) (by simp; exact Gives.mk) rfl (by simp) (by simp) (by simp; exact Gives.mk) (by simp; exact Gives.mk) ?_ | fail) | (first | refine run_callM ([(100000, 5), (50001, 40000)]) (hx) hc (by simp; exact Gives.mk) (by simp; exact Gives.mk) (by simp; exact Gives.mk) (by simp; exact Gives.mk) (by simp; exact Gives.mk) rfl (by simp; exact Gives.mk) (by simp; exact Gives.mk) rfl (by simp) (by simp) (by simp; exact Gives.mk) (by simp; exact Gives.mk) ?_ | fail) | (first | refine run_callM ([(100000, 5), (50001, 40000)]) (hx2) hc (by simp; exact Gives.mk) (by simp; exact Gives.mk) (by simp; exact Gives.mk) (by simp; exact Gives.mk) (by simp; exact Gives.mk) rfl (by simp; exact Gives.mk) (by simp; exact Gives.mk) rfl (by simp) (by simp) (by simp; exact Gives.mk) (by simp; exact Gives.mk) ?_ | fail))
        · refine ⟨(rawE l t.til t.name, rawE l t.til t.name, m ++ txt fr i ++ t :: txt t.til (rawE l t.til t.name)), ⟨by simp; omega, by simp; omega, by simp; omega, by rw [h4, hr, if_pos hb]⟩, by simp; omega, run_back [0, 4, 5, 6, 7] [14, 5, 40000] (by simp; exact Gives.mk) (by simp; exact Gives.mk) (by first | (simp [encT, ha', Nat.add_assoc]; done) | (simp [encT, ha', Nat.add_assoc]; omega))⟩
        · refine ⟨(t.til, t.til, m ++ txt fr i ++ [t]), ⟨by simp; omega, by simp; omega, by simp; omega, by rw [h4, hr, if_neg (by simpa using hb)]⟩, by simp; omega, run_back [0, 4, 5, 6, 7] [14, 5, 40000] (by simp; exact Gives.mk) (by simp; exact Gives.mk) (by first | (simp [encT, ha', Nat.add_assoc]; done) | (simp [encT, ha', Nat.add_assoc]; omega))⟩
  · rw [h4, run_end (by omega)]
    have hx := pgText_ok fr l.length m (by omega) (by omega) (by omega)
    repeat' (first | (first | refine Ya ?_ | refine Yb ?_ | refine Yc ?_ | refine Yd ?_ | refine Ye ?_ | refine Yf ?_ | refine Yg ?_ | refine Yh ?_ | refine Yi ?_ | refine Yj ?_ | refine Yk ?_ | refine Yl ?_ | refine Ym ?_ | refine Yn ?_ | refine Yo ?_ | refine Yp (h := ?_) | refine Yq ?_ | refine Yr ?_ | refine Ys ?_ | refine Zr hc (hk := ?_) | refine Zd hc (hk := ?_) | (refine Zc (ht := fun hb => ?_) (hf := fun hb => ?_) <;> (try simp at hb)) | fail) | (first | refine Zo hc (hk := ?_) | refine Zu hc (hk := ?_) | refine Ze hc (hk := ?_) | refine Zn hc (hk := ?_) | fail) | (first | refine run_callM ([(100000, 5), (50001, 40000)]) (hx) hc (by simp; exact Gives.mk) (by simp; exact Gives.mk) (by simp; exact Gives.mk) (by simp; exact Gives.mk) (by simp; exact Gives.mk) rfl (by simp; exact Gives.mk) (by simp; exact Gives.mk) rfl (by simp) (by simp) (by simp; exact Gives.mk) (by simp; exact Gives.mk) ?_ | fail))
    (refine Zl hc (hr := ?_))
    have e : decide ((m.length : Int) + ((txt fr l.length).length : Int) ≤ 20000) = decide ((m ++ txt fr l.length).length ≤ 20000) := by
      rw [decide_eq_decide, List.length_append]; omega
    simp only [← List.map_append, List.getElem?_map, getD_encT, e]
    simp
end Go.Proofs.YtjbabjfmcganpaaGreatDoor
