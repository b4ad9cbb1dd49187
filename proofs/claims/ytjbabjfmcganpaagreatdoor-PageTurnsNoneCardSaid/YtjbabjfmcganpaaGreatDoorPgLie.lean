/-
  What every law's proof leans on: the program's form, strings as arguments.
-/
import Derived.Test.YtjbabjfmcganpaaGreatDoorLibS
import Derived.Test.YtjbabjfmcganpaaGreatDoorLwCard
import Derived.Shelf.Strings.IndexAnyAll
import Derived.Test.YtjbabjfmcganpaaGreatDoorPgSafe
import Derived.Test.YtjbabjfmcganpaaGreatDoorPgTok
set_option linter.unusedSimpArgs false
set_option linter.unusedVariables false
namespace Go.Proofs.YtjbabjfmcganpaaGreatDoor
open Go.Lw Go.RowKit Go.ChangeShapes Go.WideShapes Go.ChangeAt
set_option maxRecDepth 100000
set_option maxHeartbeats 1000000

theorem own : ownKnob Tryz.prog.godebug = none := by kernel_rfl
theorem laidOut : laidOutB Tryz.prog = true := by kernel_rfl
end Go.Proofs.YtjbabjfmcganpaaGreatDoor
/-
  strings.IndexAny, ContainsAny: where no byte of a string is in a set of ASCII bytes.
-/
set_option linter.unusedSimpArgs false
set_option linter.unusedVariables false
namespace Go.Proofs.YtjbabjfmcganpaaGreatDoor
open Go.Lw Go.RowKit
set_option maxRecDepth 100000
set_option maxHeartbeats 1000000

def Ascii (l : Bs) : Prop := ∀ i, i < l.length → (l[i]?.getD 0).toNat < 128
end Go.Proofs.YtjbabjfmcganpaaGreatDoor
/-
  PageSafeIsMeant: what is safe means what it was made of, and has no byte that could end it.
-/
set_option linter.unusedSimpArgs false
set_option linter.unusedVariables false
namespace Go.Proofs.YtjbabjfmcganpaaGreatDoor
open Go.Lw Go.RowKit Go.ChangeShapes Go.WideShapes Go.ChangeAt
set_option maxRecDepth 100000
set_option maxHeartbeats 400000

theorem awake3_ok : FnOk Tryz.prog 6 [] (tru true) := by
  refine fnOk Tryz.func6 rfl (by kernel_rfl) Tryz.ntmps6 _ rfl (by simp) fun C hc => ?_
  have hS := safeF_ok [60] (by simp)
  rw [show safe [60] = [38, 108, 116, 59] by simp [safe, ent]] at hS
  simp only [List.length_cons, List.length_nil, Nat.reduceAdd, Nat.reduceLeDiff, and_self, if_true] at hS
  repeat' (first | (first | refine Ya ?_ | refine Yb ?_ | refine Yc ?_ | refine Yd ?_ | refine Ye ?_ | refine Yf ?_ | refine Yg ?_ | refine Yh ?_ | refine Yi ?_ | refine Yj ?_ | refine Yk ?_ | refine Yl ?_ | refine Ym ?_ | refine Yn ?_ | refine Yo ?_ | refine Yp (h := ?_) | refine Yq ?_ | refine Yr ?_ | refine Ys ?_ | refine Zr hc (hk := ?_) | refine Zd hc (hk := ?_) | (refine Zc (ht := fun hb => ?_) (hf := fun hb => ?_) <;> (try simp at hb)) | fail) | (first | refine Zw hc (hf := by exact hS) (hk := ?_) | refine Zq hc (hf := by exact hS) (hk := ?_) | refine Zo hc (hk := ?_) | refine Zu hc (hk := ?_) | refine Ze hc (hk := ?_) | refine Zf hc (hk := ?_) | fail))
  all_goals (refine Zl hc (hr := ?_))
  all_goals simp

end Go.Proofs.YtjbabjfmcganpaaGreatDoor
/-
  PAGE: Tokens; and PageTokensLieSide: tokens lie side by side. (WITH run_drawN.)
-/
set_option linter.unusedSimpArgs false
set_option linter.unusedVariables false
namespace Go.Proofs.YtjbabjfmcganpaaGreatDoor
open Go.Lw Go.RowKit Go.ChangeShapes Go.WideShapes Go.ChangeAt
set_option maxRecDepth 100000
set_option maxHeartbeats 1000000

abbrev encU (t : Tk) : List D := [int t.kind, int t.fr, int t.til, str t.name, attSl t.atts]
abbrev tokSu (m : List Tk) : D := .sl m.length fun i => encU (m[i]?.getD .none)
abbrev byS (l : Bs) : D := .sl l.length fun i => byteRow (l[i]?.getD 0)
/-- Tokens that are no beginnings of tags have no attributes. -/
def Plain (m : List Tk) : Prop := ∀ t ∈ m, t.kind ≠ 2 → t.atts = []
theorem weak_tok {m : List Tk} (hm : Plain m) : Weak (tokSl m) (tokSu m) := by
  refine weak_sl (fun i _ => rfl) fun i k d hi hd => ?_
  have hp := hm (m[i]?.getD .none) (by rw [List.getElem?_eq_getElem hi]; simp)
  generalize m[i]?.getD .none = t at hd hp ⊢
  match k, hd with
  | 0, hd | 1, hd | 2, hd | 3, hd => cases hd; exact ⟨_, rfl, Weak.refl _⟩
  | 4, hd =>
    cases hd
    refine ⟨_, rfl, ?_⟩
    unfold attD
    split
    · exact Weak.refl _
    · rename_i hk
      rw [hp hk]
      exact weak_nil _
@[simp] theorem range_bytes (l : Bs) : (List.range l.length).map (fun i => l[i]?.getD 0) = l := by
  apply List.ext_getElem?
  intro i
  by_cases h : i < l.length
  · simp [h]
  · simp [h]
theorem checked_ok (l : Bs) (hm : l.length ≤ maxLen) : FnOk Tryz.prog 22 [byS l] (if l.length ≤ 200000 ∧ (run l 0 0 []).length ≤ 20000 then .tup [tokSl (run l 0 0 []), int 0] else .tup [nilSl, int 2]) := by
  refine fnOk Tryz.func22 rfl (by kernel_rfl) Tryz.ntmps22 _ rfl (by simp) fun C hc => ?_
  unfold maxLen at hm
  by_cases h1 : l.length ≤ 200000
  · have ht := tokens_ok l h1
    repeat' (first | (first | refine Ya ?_ | refine Yb ?_ | refine Yc ?_ | refine Yd ?_ | refine Ye ?_ | refine Yf ?_ | refine Yg ?_ | refine Yh ?_ | refine Yi ?_ | refine Yj ?_ | refine Yk ?_ | refine Yl ?_ | refine Ym ?_ | refine Yn ?_ | refine Yo ?_ | refine Yp (h := ?_) | refine Yq ?_ | refine Yr ?_ | refine Ys ?_ | refine Zr hc (hk := ?_) | refine Zd hc (hk := ?_) | (refine Zc (ht := fun hb => ?_) (hf := fun hb => ?_) <;> (try simp at hb)) | fail) | (first | refine Zw hc (hf := by exact ht) (hk := ?_) | refine Zq hc (hf := by exact ht) (hk := ?_) | refine Zo hc (hk := ?_) | refine Zu hc (hk := ?_) | refine Ze hc (hk := ?_) | refine Zn hc (hk := ?_) | fail))
    · exfalso; omega
    · rw [if_neg (by omega)]
      (refine Zl hc (hr := ?_))
      simp
    · rw [if_pos (by omega)]
      (refine Zl hc (hr := ?_))
      simp
  · rw [if_neg (fun h => h1 h.1)]
    repeat' (first | (first | refine Ya ?_ | refine Yb ?_ | refine Yc ?_ | refine Yd ?_ | refine Ye ?_ | refine Yf ?_ | refine Yg ?_ | refine Yh ?_ | refine Yi ?_ | refine Yj ?_ | refine Yk ?_ | refine Yl ?_ | refine Ym ?_ | refine Yn ?_ | refine Yo ?_ | refine Yp (h := ?_) | refine Yq ?_ | refine Yr ?_ | refine Ys ?_ | refine Zr hc (hk := ?_) | refine Zd hc (hk := ?_) | (refine Zc (ht := fun hb => ?_) (hf := fun hb => ?_) <;> (try simp at hb)) | fail))
    · (refine Zl hc (hr := ?_))
      simp
    · exfalso; omega

/-! Side by side. -/
def Fit (t : Tk) : Prop := ∀ x ∈ t.atts, t.fr ≤ x.fr ∧ x.fr ≤ x.til ∧ x.til ≤ t.til ∧ (x.has = false → x.fr = x.til)
def Side : List Tk → Nat → Nat → Prop
  | [], a, b => a = b
  | t :: r, a, b => t.fr = a ∧ a < t.til ∧ Fit t ∧ ((t.kind ≠ 2 → t.atts = []) ∧ t.atts.length ≤ 200000) ∧ Side r t.til b
theorem Side.append {m r : List Tk} {a b c : Nat} (h : Side m a b) (h2 : Side r b c) : Side (m ++ r) a c := by
  induction m generalizing a with
  | nil => cases h; exact h2
  | cons t m ih => exact ⟨h.1, h.2.1, h.2.2.1, h.2.2.2.1, ih h.2.2.2.2⟩
theorem txt_side {a b : Nat} (h : a ≤ b) : Side (txt a b) a b := by
  unfold txt
  split
  · exact ⟨rfl, by assumption, (fun x hx => by cases hx), ⟨fun _ => rfl, by simp⟩, rfl⟩
  · show a = b; omega
theorem tok_plain {l : Bs} {i : Nat} {t : Tk} (h : tok l i = some t) : t.kind ≠ 2 → t.atts = [] := by
  unfold tok at h
  split at h
  · cases h; exact fun _ => rfl
  · split at h
    · cases h; exact fun _ => rfl
    · split at h
      · cases h; exact fun hk => absurd rfl hk
      · cases h
theorem tok_atts {l : Bs} {i : Nat} {t : Tk} (hi : i ≤ l.length) (h : tok l i = some t) : t.atts.length ≤ l.length := by
  unfold tok at h
  have h3 := opn_le (l := l) hi
  split at h
  · cases h; simp
  · split at h
    · cases h; simp
    · split at h
      · rename_i r q hr
        cases h
        rw [hr] at h3
        exact (h3.2 _ rfl).2.2.2
      · cases h
theorem run_side (l : Bs) (hll : l.length ≤ 200000) : ∀ (n fr i : Nat) (m : List Tk), l.length - i ≤ n → fr ≤ i → i ≤ l.length → Side m 0 fr → (run l fr i m).length ≤ 20000 → Side (run l fr i m) 0 l.length := by
  intro n
  induction n with
  | zero =>
    intro fr i m h1 h2 h3 h4 h5
    rw [run_end (by omega)]
    exact h4.append (txt_side (by omega))
  | succ n ih =>
    intro fr i m h1 h2 h3 h4 h5
    by_cases hc : i < l.length ∧ m.length ≤ 20000
    · cases ht : tok l i with
      | none =>
        rw [run_none hc.1 hc.2 ht] at h5 ⊢
        exact ih fr (i + 1) m (by omega) (by omega) (by omega) h4 h5
      | some t =>
        rw [run_some hc.1 hc.2 ht] at h5 ⊢
        have hle := tok_le h3 ht
        have hre := rawE_le l t.til t.name hle.2.1
        have hs : ∀ r c, Side r t.til c → Side (m ++ txt fr i ++ t :: r) 0 c := fun r c hr =>
          (h4.append (txt_side h2)).append ⟨hle.2.2.1, by omega, fun x hx => by have := hle.2.2.2.2.2 x hx; rw [hle.2.2.1]; exact this, ⟨tok_plain ht, Nat.le_trans (tok_atts h3 ht) hll⟩, hr⟩
        split
        · rename_i hb
          rw [if_pos hb] at h5
          exact ih _ _ _ (by omega) (Nat.le_refl _) hre.2 (hs _ _ (txt_side hre.1)) h5
        · rename_i hb
          rw [if_neg hb] at h5
          exact ih _ _ _ (by omega) (Nat.le_refl _) hle.2.1 (hs [] t.til rfl) h5
    · rw [run_end hc] at h5 ⊢
      simp at h5
      exact h4.append (txt_side (by omega))
theorem Side.plain {m : List Tk} {a b : Nat} (h : Side m a b) : Plain m := by
  induction m generalizing a with
  | nil => intro t ht; cases ht
  | cons t m ih =>
    intro x hx
    cases hx with
    | head => exact h.2.2.2.1.1
    | tail _ hx => exact ih h.2.2.2.2 x hx

theorem opn_byte : Opn Tryz.prog 5 (fun b : UInt8 => byteRow b) (fun _ => True) :=
  (opn_int Tryz.underlying5).map (fun n => UInt8.ofNat n.toNat) (fun n h => by
    have h' : 0 ≤ n ∧ n ≤ 255 := h
    have e : ((UInt8.ofNat n.toNat).toNat : Int) = n := by
      rw [UInt8.toNat_ofNat']
      omega
    show [D.lit (.int .u8 (((UInt8.ofNat n.toNat).toNat : Nat) : Int))] = _
    rw [e]) (fun _ _ => trivial)
theorem opnA_by : OpnA Tryz.prog 22 byS (fun l => l.length ≤ maxLen ∧ ∀ x ∈ l, True) :=
  opnA_cell (opn_slice (0 : UInt8) Tryz.underlying22 (n := 1) (by kernel_rfl) (by omega) opn_byte) (fun _ => by simp [byS]) (by kernel_rfl)
end Go.Proofs.YtjbabjfmcganpaaGreatDoor
