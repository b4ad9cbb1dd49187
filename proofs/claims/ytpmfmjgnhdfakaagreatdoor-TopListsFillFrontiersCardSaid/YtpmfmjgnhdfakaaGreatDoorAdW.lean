/-
  DIVIDED AND JOINED, IN PLAIN LEAN.
-/
import Derived.Test.YtpmfmjgnhdfakaaGreatDoorAdK
import Derived.Test.YtpmfmjgnhdfakaaGreatDoorAdI
import Derived.Test.YtpmfmjgnhdfakaaGreatDoorLwPh
set_option linter.unusedSimpArgs false
set_option linter.unusedVariables false
namespace Go.Proofs.YtpmfmjgnhdfakaaGreatDoor
open Go.Lw
set_option maxRecDepth 100000
set_option maxHeartbeats 1000000

theorem ix_none (c : UInt8) (s : Bs) (h : c ∉ s) : Lib.index s [c] = -1 := by
  rw [Lib.index_one]
  have h1 := index_neg s c
  have h2 := Lib.indexByte_ge s c
  have : s.contains c = false := by simpa using h
  have := h1.2 this
  omega
theorem ix_app (c : UInt8) : ∀ (x y : Bs), c ∉ x → Lib.index (x ++ c :: y) [c] = x.length := by
  intro x y h
  rw [Lib.index_one]
  induction x with
  | nil => simp [Lib.indexByte]
  | cons b x ih =>
    have h1 : ¬ b = c := fun e => h (by rw [e]; exact List.mem_cons_self)
    have h2 := ih (fun e => h (List.mem_cons_of_mem _ e))
    simp only [List.cons_append, Lib.indexByte, h2]
    rw [if_neg (by simpa using h1), if_neg (by first | (simp; done) | (simp; omega))]
    simp
/-- A text is free of a byte, or has it for the first time somewhere. -/
theorem parted (c : UInt8) (s : Bs) : c ∉ s ∨ ∃ x y, s = x ++ c :: y ∧ c ∉ x := by
  by_cases h : c ∈ s
  · right
    induction s with
    | nil => cases h
    | cons b s ih =>
      by_cases hb : b = c
      · exact ⟨[], s, by rw [hb]; rfl, by simp⟩
      · obtain ⟨x, y, e, hx⟩ := ih (by cases h with | head => exact absurd rfl hb | tail _ h => exact h)
        exact ⟨b :: x, y, by rw [e]; rfl, by simp; exact ⟨fun e => hb e.symm, hx⟩⟩
  · exact .inl h
theorem split_none (c : UInt8) (s : Bs) (h : c ∉ s) : Lib.split s [c] = [s] := by
  unfold Lib.split
  rw [Lib.count_miss (ix_none c s h)]
  rfl
theorem split_app (c : UInt8) (x y : Bs) (h : c ∉ x) : Lib.split (x ++ c :: y) [c] = x :: Lib.split y [c] := by
  have hi := ix_app c x y h
  unfold Lib.split
  rw [Lib.count_hit (by simp) hi, Nat.add_comm 1, Lib.splitK, if_neg (by rw [hi]; first | (simp; done) | (simp; omega)), hi]
  have e : (x ++ c :: y).drop (x.length + 1) = y := by
    rw [show x ++ c :: y = (x ++ [c]) ++ y by simp]
    exact List.drop_left' (by simp)
  simp only [Int.toNat_natCast, List.length_cons, List.length_nil, Nat.zero_add, Nat.add_zero, e]
  rw [List.take_left]
theorem split_ne (c : UInt8) (s : Bs) : Lib.split s [c] ≠ [] := by
  rcases parted c s with h | ⟨x, y, rfl, h⟩
  · rw [split_none c s h]; simp
  · rw [split_app c x y h]; simp
theorem join_two (x y : Bs) (L : List Bs) (s : Bs) : Lib.join (x :: y :: L) s = x ++ s ++ Lib.join (y :: L) s := by
  rw [Lib.join_cons, Lib.join_cons]
  simp [Lib.joinTail]
theorem join_step (x : Bs) (L : List Bs) (s : Bs) (h : L ≠ []) : Lib.join (x :: L) s = x ++ s ++ Lib.join L s := by
  cases L with
  | nil => exact absurd rfl h
  | cons y L => exact join_two x y L s
theorem join_split (c : UInt8) (s : Bs) : Lib.join (Lib.split s [c]) [c] = s := by
  generalize hn : s.length = n
  induction n using Nat.strongRecOn generalizing s with
  | _ n ih =>
    rcases parted c s with h | ⟨x, y, rfl, h⟩
    · rw [split_none c s h, Lib.join_one]
    · rw [split_app c x y h, join_step _ _ _ (split_ne c y), ih y.length (by simp at hn; omega) y rfl]
      simp
theorem split_free (c : UInt8) (s : Bs) : ∀ x ∈ Lib.split s [c], c ∉ x := by
  generalize hn : s.length = n
  induction n using Nat.strongRecOn generalizing s with
  | _ n ih =>
    rcases parted c s with h | ⟨x, y, rfl, h⟩
    · rw [split_none c s h]; simpa using h
    · rw [split_app c x y h]
      intro z hz
      cases hz with
      | head => exact h
      | tail _ hz => exact ih y.length (by simp at hn; omega) y rfl z hz
theorem split_join (c : UInt8) : ∀ L : List Bs, L ≠ [] → (∀ x ∈ L, c ∉ x) → Lib.split (Lib.join L [c]) [c] = L
  | [], h, _ => absurd rfl h
  | [x], _, h => by rw [Lib.join_one, split_none c x (h x (by simp))]
  | x :: y :: L, _, h => by
    rw [join_two, List.append_assoc, List.singleton_append, split_app c x _ (h x (by simp)), split_join c (y :: L) (by simp) (fun z hz => h z (List.mem_cons_of_mem _ hz))]
theorem cut_one (c : UInt8) (x : Bs) (h : c ∉ x) : Lib.cut x [c] = (x, [], false) := by
  unfold Lib.cut
  rw [ix_none c x h, if_neg (by omega)]
theorem cut_app (c : UInt8) (x y : Bs) (h : c ∉ x) : Lib.cut (x ++ c :: y) [c] = (x, y, true) := by
  unfold Lib.cut
  rw [ix_app c x y h, if_pos (by omega)]
  have e : (x ++ c :: y).drop (x.length + 1) = y := by
    rw [show x ++ c :: y = (x ++ [c]) ++ y by simp]
    exact List.drop_left' (by simp)
  simp [e]
end Go.Proofs.YtpmfmjgnhdfakaaGreatDoor
/-
  DOMAINS, IN PLAIN LEAN.
-/
set_option linter.unusedSimpArgs false
set_option linter.unusedVariables false
namespace Go.Proofs.YtpmfmjgnhdfakaaGreatDoor
open Go.Lw
set_option maxRecDepth 100000
set_option maxHeartbeats 1000000

def isHostS (s : Bs) : Bool := isHostB s && decide (small s = s)
/-- The labels of a suffix. -/
def sufL (s : Bs) : Bs := if [42, 46] <+: s then s.drop 2 else if [33] <+: s then s.drop 1 else s
def leS (a b : Bs) : Bool := Op.bytesLess a b || a == b
def sufFrom (l : List Bs) (j : Nat) : Nat :=
  if j < l.length then
    (if isHostS (sufL (l[j]?.getD [])) = false then 3 else if 0 < j ∧ leS (l[j]?.getD []) (l[j - 1]?.getD []) = true then 8 else sufFrom l (j + 1))
  else 0
termination_by l.length - j
def sufC (l : List Bs) : Nat := if 500 < l.length then 2 else sufFrom l 0
/-- The last n labels of a host, as a text. -/
def tailS (L : List Bs) (n : Nat) : Bs := Lib.join (L.drop (L.length - n)) [46]
def ruleX (L l : List Bs) (n : Nat) : Bool := decide ((33 :: tailS L n) ∈ l)
def ruleM (L l : List Bs) (n : Nat) : Bool := decide (tailS L n ∈ l) || (decide (1 < n) && decide ((42 :: 46 :: tailS L (n - 1)) ∈ l))
def mostN (L l : List Bs) : Nat → Nat
  | 0 => 1
  | n + 1 => if ruleM L l (n + 1) = true then n + 1 else mostN L l n
def notN (L l : List Bs) : Nat → Int
  | 0 => -1
  | n + 1 => if ruleX L l (n + 1) = true then n else notN L l n
/-- How many labels the suffix has. -/
def sfx (L l : List Bs) : Nat := if 0 ≤ notN L l L.length then (notN L l L.length).toNat else mostN L l L.length
def domC (host : Bs) (l : List Bs) : Bs × Bool × Nat :=
  if isHostS host = false then ([], false, 10) else if sufC l ≠ 0 then ([], false, sufC l)
  else if (Lib.split host [46]).length < sfx (Lib.split host [46]) l + 1 then ([], false, 0) else (tailS (Lib.split host [46]) (sfx (Lib.split host [46]) l + 1), true, 0)
/-! Hosts and their ends. -/
end Go.Proofs.YtpmfmjgnhdfakaaGreatDoor
/-
  DOMAINS: CheckSuffixes, suffix, Domain. (WITH run_drawN.)
-/
set_option linter.unusedSimpArgs false
set_option linter.unusedVariables false
namespace Go.Proofs.YtpmfmjgnhdfakaaGreatDoor
open Go.Lw Go.RowKit
set_option maxRecDepth 100000
set_option maxHeartbeats 1000000

theorem lHasPrefix_ok (s p : Bs) : FnOk Tryz.prog 44 [str s, str p] (tru (p.isPrefixOf s)) :=
  fnOk_lits [.string (bs s), .string (bs p)] (by kernel_rfl) fun w _ => Tryz.stringslite_HasPrefix (bs s) (bs p) w
def cutP (s p : Bs) : Bs := if p <+: s then s.drop p.length else s
theorem lCutPrefix_ok (s p : Bs) : FnOk Tryz.prog 106 [str s, str p] (.tup [str (cutP s p), tru (decide (p <+: s))]) := by
  refine fnOk Tryz.func106 rfl (by kernel_rfl) Tryz.ntmps106 _ rfl (by simp) fun C hc => ?_
  have h := lHasPrefix_ok s p
  unfold cutP
  by_cases hp : p <+: s
  · rw [List.isPrefixOf_iff_prefix.2 hp] at h
    rw [if_pos hp]
    have := hp.length_le
    repeat' (first | (first | refine Ya ?_ | refine Yb ?_ | refine Yc ?_ | refine Yd ?_ | refine Ye ?_ | refine Yf ?_ | refine Yg ?_ | refine Yh ?_ | refine Yi ?_ | refine Yj ?_ | refine Yk ?_ | refine Yl ?_ | refine Ym ?_ | refine Yn ?_ | refine Yo ?_ | refine Yp (h := ?_) | refine Yq ?_ | refine Yr ?_ | refine Ys ?_ | refine Zr hc (hk := ?_) | refine Zd hc (hk := ?_) | (refine Zc (ht := fun hb => ?_) (hf := fun hb => ?_) <;> (try simp at hb)) | fail) | (first | refine Zw hc (hf := by exact h) (hk := ?_) | refine Zq hc (hf := by exact h) (hk := ?_) | refine Zo hc (hk := ?_) | refine Zu hc (hk := ?_) | refine Ze hc (hk := ?_) | refine Zn hc (hk := ?_) | fail))
    all_goals try contradiction
    (refine Zl hc (hr := ?_))
    simp [hp]
  · rw [show p.isPrefixOf s = false by rw [← Bool.not_eq_true, List.isPrefixOf_iff_prefix]; exact hp] at h
    rw [if_neg hp]
    repeat' (first | (first | refine Ya ?_ | refine Yb ?_ | refine Yc ?_ | refine Yd ?_ | refine Ye ?_ | refine Yf ?_ | refine Yg ?_ | refine Yh ?_ | refine Yi ?_ | refine Yj ?_ | refine Yk ?_ | refine Yl ?_ | refine Ym ?_ | refine Yn ?_ | refine Yo ?_ | refine Yp (h := ?_) | refine Yq ?_ | refine Yr ?_ | refine Ys ?_ | refine Zr hc (hk := ?_) | refine Zd hc (hk := ?_) | (refine Zc (ht := fun hb => ?_) (hf := fun hb => ?_) <;> (try simp at hb)) | fail) | (first | refine Zw hc (hf := by exact h) (hk := ?_) | refine Zq hc (hf := by exact h) (hk := ?_) | refine Zo hc (hk := ?_) | refine Zu hc (hk := ?_) | refine Ze hc (hk := ?_) | refine Zn hc (hk := ?_) | fail))
    all_goals try contradiction
    (refine Zl hc (hr := ?_))
    simp [hp]
theorem cutPrefix_ok (s p : Bs) : FnOk Tryz.prog 57 [str s, str p] (.tup [str (cutP s p), tru (decide (p <+: s))]) := by
  refine fnOk Tryz.func57 rfl (by kernel_rfl) Tryz.ntmps57 _ rfl (by simp) fun C hc => ?_
  repeat' (first | (first | refine Ya ?_ | refine Yb ?_ | refine Yc ?_ | refine Yd ?_ | refine Ye ?_ | refine Yf ?_ | refine Yg ?_ | refine Yh ?_ | refine Yi ?_ | refine Yj ?_ | refine Yk ?_ | refine Yl ?_ | refine Ym ?_ | refine Yn ?_ | refine Yo ?_ | refine Yp (h := ?_) | refine Yq ?_ | refine Yr ?_ | refine Ys ?_ | refine Zr hc (hk := ?_) | refine Zd hc (hk := ?_) | (refine Zc (ht := fun hb => ?_) (hf := fun hb => ?_) <;> (try simp at hb)) | fail) | (first | refine Zw hc (hf := by exact lCutPrefix_ok s p) (hk := ?_) | refine Zq hc (hf := by exact lCutPrefix_ok s p) (hk := ?_) | refine Zo hc (hk := ?_) | refine Zu hc (hk := ?_) | refine Ze hc (hk := ?_) | refine Zn hc (hk := ?_) | fail))
  (refine Zl hc (hr := ?_))
  simp
/-! The suffix. -/
theorem below_drewN (w : World) : ∀ n, Below w.heap.size w (w.drewN n)
  | 0 => by rw [World.drewN_zero]; exact Below.refl _ _
  | n + 1 => by rw [← World.drew_drewN]; exact Below.drew (below_drewN w n)
theorem cut_ok (s : Bs) (c : UInt8) (hs : s.length < 4294967281) : FnOk Tryz.prog 62 [str s, str [c]] (.tup [str (Lib.cut s [c]).1, str (Lib.cut s [c]).2.1, tru (Lib.cut s [c]).2.2]) :=
  ⟨by kernel_rfl, fun ok w vs _ hstd ha => by
    have h0 : ArgsRd w ok ([Value.string (bs s), Value.string (bs [c])].map D.lit) vs := ha
    obtain rfl : vs = #[.string (bs s), .string (bs [c])] := lits_rd h0
    obtain ⟨m, hm⟩ := hstd.2.1 0 3 .i64 (by kernel_rfl) (by kernel_rfl)
    refine (Tryz.strings_Cut (bs s) (bs [c]) m w (by simpa using hs) hm).mono fun e w' ⟨he, n, hw⟩ => ⟨_, he, ?_, ?_⟩
    · exact hw ▸ below_drewN w n
    · exact .tup _ _ (fun i => (#[Value.string (bs (Lib.cut s [c]).1), .string (bs (Lib.cut s [c]).2.1), .bool (Lib.cut s [c]).2.2])[i]?.getD undef) rfl (fun i hi => by
        match i, hi with
        | 0, _ => rfl
        | 1, _ => rfl
        | 2, _ => rfl) (fun i d hd => by
        match i, hd with
        | 0, hd => cases hd; exact .lit _
        | 1, hd => cases hd; exact .lit _
        | 2, hd => cases hd; exact .lit _)⟩
end Go.Proofs.YtpmfmjgnhdfakaaGreatDoor
/-
  DOMAINS: Domain. (WITH run_drawN.)
-/
set_option linter.unusedSimpArgs false
set_option linter.unusedVariables false
namespace Go.Proofs.YtpmfmjgnhdfakaaGreatDoor
open Go.Lw Go.RowKit
set_option maxRecDepth 100000
set_option maxHeartbeats 1000000

@[simp] def domD (x : Bs × Bool × Nat) : D := .tup [str x.1, tru x.2.1, int x.2.2]
end Go.Proofs.YtpmfmjgnhdfakaaGreatDoor
