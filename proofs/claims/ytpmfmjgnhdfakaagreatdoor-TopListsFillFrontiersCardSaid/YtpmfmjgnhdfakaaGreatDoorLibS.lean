/-
  STRINGS: plain functions on bytes; and the contracts of small functions.
-/
import Derived.Test.YtpmfmjgnhdfakaaGreatDoorLwTypes
import Derived.Test.YtpmfmjgnhdfakaaGreatDoorShelf
import Derived.Shelf.Strings.Prefix
import Derived.Shelf.Strings.Split
import Derived.Lib.CountLaws
import Derived.Lib.Join
set_option linter.unusedSimpArgs false
set_option linter.unusedVariables false
namespace Go.Proofs.YtpmfmjgnhdfakaaGreatDoor
open Go.Lw
set_option maxRecDepth 100000
set_option maxHeartbeats 400000

abbrev Bs := List UInt8
abbrev int (n : Int) : D := .lit (.int .i64 n)
abbrev tru (b : Bool) : D := .lit (.bool b)
abbrev u8 (c : UInt8) : D := .lit (.int .u8 (c.toNat : Int))
abbrev str (l : Bs) : D := .lit (.string (bs l))

/-! Bytes. -/
def isUp (c : UInt8) : Bool := decide (65 ≤ c.toNat) && decide (c.toNat ≤ 90)
def isLo (c : UInt8) : Bool := decide (97 ≤ c.toNat) && decide (c.toNat ≤ 122)
def isLet (c : UInt8) : Bool := isLo c || isUp c
def isDig (c : UInt8) : Bool := decide (48 ≤ c.toNat) && decide (c.toNat ≤ 57)
def isBl (c : UInt8) : Bool := decide (c.toNat = 9) || decide (c.toNat = 10) || decide (c.toNat = 12) || decide (c.toNat = 13) || decide (c.toNat = 32)
def low (c : UInt8) : UInt8 := if isUp c then c + 32 else c
def small (l : Bs) : Bs := l.map low
theorem low_toNat (c : UInt8) : (low c).toNat = if isUp c then c.toNat + 32 else c.toNat := by
  unfold low
  split
  · rename_i h
    simp only [isUp, Bool.and_eq_true, decide_eq_true_eq] at h
    rw [UInt8.toNat_add]
    simp
    omega
  · rfl

theorem low_up (c : UInt8) (h : 65 ≤ (c.toNat : Int) ∧ (c.toNat : Int) ≤ 90) : ((low c).toNat : Int) = c.toNat + 97 - 65 := by
  rw [low_toNat, if_pos (by simp [isUp]; omega)]
  omega

/-- Bytes up to a place turned, from there on as they were. -/
def part (f : UInt8 → UInt8) (l : Bs) (j : Nat) : Bs := (l.take j).map f ++ l.drop j
@[simp] theorem part_length (f : UInt8 → UInt8) (l : Bs) (j : Nat) (hj : j ≤ l.length) : (part f l j).length = l.length := by simp [part]; omega
theorem part_at (f : UInt8 → UInt8) (l : Bs) (j : Nat) (hj : j ≤ l.length) : (part f l j)[j]?.getD 0 = l[j]?.getD 0 := by
  unfold part
  rw [List.getElem?_append_right (by simp; omega)]
  simp [Nat.min_eq_left hj]
theorem part_set (f : UInt8 → UInt8) (l : Bs) (j : Nat) (hj : j < l.length) : (part f l j).set j (f (l[j]?.getD 0)) = part f l (j + 1) := by
  unfold part
  have e1 : ((l.take j).map f).length = j := by simp; omega
  have e2 : l[j]?.getD 0 = l[j] := by simp [hj]
  have e3 : l.take (j + 1) = l.take j ++ [l[j]] := by rw [List.take_add_one]; simp [hj]
  rw [List.set_append_right _ _ (by omega), e1, Nat.sub_self, List.drop_eq_getElem_cons hj, List.set_cons_zero, e2, e3, List.map_append, List.append_assoc]
  rfl
theorem part_same (f : UInt8 → UInt8) (l : Bs) (j : Nat) (hj : j < l.length) (hf : f (l[j]?.getD 0) = l[j]?.getD 0) : part f l j = part f l (j + 1) := by
  rw [← part_set f l j hj, hf, ← part_at f l j (by omega)]
  have hl : j < (part f l j).length := by rw [part_length f l j (by omega)]; exact hj
  simp [hl]

theorem small_ok (l : Bs) (hm : l.length ≤ 9223372036854775807) : FnOk Tryz.prog 49 [str l] (str (small l)) := by
  refine fnOk Tryz.func49 rfl (by kernel_rfl) Tryz.ntmps49 _ rfl (by simp) fun C hc => ?_
  repeat' (first | refine Ya ?_ | refine Yb ?_ | refine Yc ?_ | refine Yd ?_ | refine Ye ?_ | refine Yf ?_ | refine Yg ?_ | refine Yh ?_ | refine Yi ?_ | refine Yj ?_ | refine Yk ?_ | refine Yl ?_ | refine Ym ?_ | refine Yn ?_ | refine Yo ?_ | refine Yp (h := ?_) | refine Yq ?_ | refine Yr ?_ | refine Ys ?_ | refine Zr hc (hk := ?_) | refine Zd hc (hk := ?_) | (refine Zc (ht := fun hb => ?_) (hf := fun hb => ?_) <;> (try simp at hb)) | fail)
  refine ewp_loop (fun x : Nat × Bs => ⟨[(3, .os 7 x.2.length), (8, .os 7 x.2.length), (9, .d (int l.length)), (10, .d (int x.1))], [(7, .own 5 1 (false, [.lit (.int .u8 0)]) (x.2.map byteRow))]⟩) (fun x => x.1 ≤ l.length ∧ x.2 = part low l x.1) (fun x => l.length - x.1) (0, l) ⟨by simp, by simp [part]⟩ (run_keep [3, 8, 9, 10] [7] (by simp; exact Gives.mk) (by simp; exact Gives.mk)) ?_
  rintro ⟨j, m⟩ ⟨hj, hm1⟩
  simp only at hj hm1 ⊢
  have hml : m.length = l.length := by rw [hm1]; exact part_length low l j hj
  have ha : m[j]?.getD 0 = l[j]?.getD 0 := by rw [hm1]; exact part_at low l j hj
  repeat' (first | refine Ya ?_ | refine Yb ?_ | refine Yc ?_ | refine Yd ?_ | refine Ye ?_ | refine Yf ?_ | refine Yg ?_ | refine Yh ?_ | refine Yi ?_ | refine Yj ?_ | refine Yk ?_ | refine Yl ?_ | refine Ym ?_ | refine Yn ?_ | refine Yo ?_ | refine Yp (h := ?_) | refine Yq ?_ | refine Yr ?_ | refine Ys ?_ | refine Zr hc (hk := ?_) | refine Zd hc (hk := ?_) | (refine Zc (ht := fun hb => ?_) (hf := fun hb => ?_) <;> (try simp at hb)) | fail)
  · refine ⟨(j + 1, m.set j (low (l[j]?.getD 0))), ⟨by simp; omega, ?_⟩, by simp; omega, run_back [3, 8, 9, 10] [7] (by simp; exact Gives.mk) (by simp; exact Gives.mk) (by rw [ha] at hb; simp [ha, low_up _ hb])⟩
    simp only
    rw [hm1, part_set low l j (by omega)]
  · refine ⟨(j + 1, m), ⟨by simp; omega, ?_⟩, by simp; omega, run_back [3, 8, 9, 10] [7] (by simp; exact Gives.mk) (by simp; exact Gives.mk) (by simp)⟩
    simp only
    rw [hm1]
    refine part_same low l j (by omega) ?_
    rw [ha] at hb
    unfold low isUp
    rw [if_neg (by simp; omega)]
  · (refine Zl hc (hr := ?_))
    simp [hm1, part, small, List.take_of_length_le (show l.length ≤ j by omega), List.drop_of_length_le (show l.length ≤ j by omega)]

/-! As far as bytes are of a kind. -/
def skip (p : UInt8 → Bool) (l : Bs) (i : Nat) : Nat := i + ((l.drop i).takeWhile p).length
theorem skip_step (p : UInt8 → Bool) (l : Bs) (i : Nat) (h : i < l.length) : skip p l i = if p (l[i]?.getD 0) then skip p l (i + 1) else i := by
  unfold skip
  rw [List.drop_eq_getElem_cons h, List.takeWhile_cons]
  have : l[i]?.getD 0 = l[i] := by simp [h]
  rw [this]
  split
  · simp; omega
  · simp
theorem skip_end (p : UInt8 → Bool) (l : Bs) (i : Nat) (h : l.length ≤ i) : skip p l i = i := by
  unfold skip
  rw [List.drop_of_length_le h]; simp
theorem skip_le (p : UInt8 → Bool) (l : Bs) (i : Nat) (h : i ≤ l.length) : skip p l i ≤ l.length := by
  unfold skip
  have := (List.takeWhile_prefix (l := l.drop i) p).length_le
  simp at this; omega
end Go.Proofs.YtpmfmjgnhdfakaaGreatDoor
/-
  THE LIBRARY's CONTRACTS, off the shelf: prefixes, bytes in strings.
-/
set_option linter.unusedSimpArgs false
set_option linter.unusedVariables false
namespace Go.Proofs.YtpmfmjgnhdfakaaGreatDoor
open Go.Lw
set_option maxRecDepth 100000

theorem hasPrefix_ok (s p : Bs) : FnOk Tryz.prog 18 [str s, str p] (tru (p.isPrefixOf s)) :=
  fnOk_lits [.string (bs s), .string (bs p)] (by kernel_rfl) fun w _ => Tryz.strings_HasPrefix (bs s) (bs p) w
theorem indexByte_ok (s : Bs) (c : UInt8) : FnOk Tryz.prog 63 [str s, u8 c] (int (Lib.indexByte s c)) :=
  fnOk_lits [.string (bs s), .int .u8 (c.toNat : Int)] (by kernel_rfl) fun w _ => by
    have h := Tryz.strings_IndexByte (bs s) (c.toNat : Int) w
    simpa using h
theorem index_neg (l : Bs) (c : UInt8) : Lib.indexByte l c < 0 ↔ l.contains c = false := by
  induction l with
  | nil => simp [Lib.indexByte]
  | cons b l ih =>
    have hg := Lib.indexByte_ge l c
    simp only [Lib.indexByte]
    by_cases hb : b = c
    · subst hb; simp
    · have hb' : ¬ c = b := fun e => hb e.symm
      simp only [beq_iff_eq, hb, if_false, List.contains_cons, Bool.or_eq_false_iff, beq_eq_false_iff_ne, ne_eq, hb', not_false_eq_true, true_and]
      rw [← ih]
      split <;> omega
end Go.Proofs.YtpmfmjgnhdfakaaGreatDoor
/-
  LISTS OF STRINGS: contracts of Index, Contains, Join, Split, TrimSuffix. (WITH run_drawN.)
-/
set_option linter.unusedSimpArgs false
set_option linter.unusedVariables false
namespace Go.Proofs.YtpmfmjgnhdfakaaGreatDoor
open Go.Lw Go.RowKit
set_option maxRecDepth 100000
set_option maxHeartbeats 1000000

abbrev strSl (L : List Bs) : D := .sl L.length fun i => (L.map fun x => [str x])[i]?.getD [str []]
@[simp] theorem getD_str (o : Option Bs) : (Option.map (fun x => [str x]) o).getD [.lit (.string (bs []))] = [str (o.getD [])] := by cases o <;> rfl
def idxS (L : List Bs) (s : Bs) (j : Nat) : Int := if j < L.length then (if s = L[j]?.getD [] then (j : Int) else idxS L s (j + 1)) else -1
termination_by L.length - j
/-! Joined. -/
theorem rd_sl_str {w : World} {ok : Nat → Prop} {L : List Bs} {v : Value} (h : RdD w ok (strSl L) v) :
    ∃ A cap, v = .slice A L.length cap ∧ L.length ≤ cap ∧ (0 < L.length → ∃ b off, A = some ⟨b, off, none⟩ ∧ ok b ∧ ∀ (j : Nat) x, (L.map bs)[j]? = some x → w.cell? ⟨b, off + j, none⟩ = some (.string x)) := by
  generalize hd : strSl L = d at h
  cases h with
  | sl n f A cap size b off g hc hm hA hl hg h =>
    obtain ⟨rfl, rfl⟩ := D.sl.inj hd
    refine ⟨A, cap, rfl, hc, fun h0 => ⟨b, off, (hA h0).1, (hA h0).2, fun j x hx => ?_⟩⟩
    have hj : j < L.length := by have := (List.getElem?_eq_some_iff.1 hx).1; simpa using this
    have hs : size = 1 := by rw [← hl j hj]; simp [hj]
    subst hs
    have h1 := hg j 0 hj (by omega)
    have h2 := h j 0 (str (L[j]?.getD [])) hj (by simp)
    rw [List.getElem?_map, List.getElem?_eq_getElem hj] at hx
    rw [List.getElem?_eq_getElem hj] at h2
    have h3 : g j 0 = .string x := by
      generalize g j 0 = y at h2
      cases h2
      cases hx
      rfl
    rw [h3] at h1
    simpa using h1
  | _ => cases hd
theorem join_ok (L : List Bs) (s : Bs) (hL : L.length ≤ 200000) (hlen : (Lib.join L s).length ≤ 140737488355328) : FnOk Tryz.prog 109 [strSl L, str s] (str (Lib.join L s)) := by
  refine ⟨by kernel_rfl, fun ok w vs hk hs ha => ?_⟩
  obtain ⟨hn, hr⟩ := ha
  obtain ⟨v0, e0, r0⟩ := hr 0 _ rfl
  obtain ⟨v1, e1, r1⟩ := hr 1 _ rfl
  have hv1 : v1 = .string (bs s) := by cases r1; rfl
  subst hv1
  obtain ⟨A, cap, rfl, hcap, hb⟩ := rd_sl_str r0
  have hvs : vs = #[.slice A L.length cap, .string (bs s)] := by
    apply Array.ext'
    apply List.ext_getElem?
    intro k
    match k with
    | 0 => simpa using e0
    | 1 => simpa using e1
    | k + 2 =>
      rw [Array.getElem?_toList, Array.getElem?_eq_none (by rw [hn]; simp)]
      simp
  subst hvs
  rcases Nat.eq_zero_or_pos L.length with h0 | h0
  · obtain rfl := List.length_eq_zero_iff.1 h0
    exact (Tryz.strings_Join_none A cap (bs s) w).mono fun e w' ⟨he, hw⟩ => ⟨_, he, hw ▸ Below.refl _ _, .lit _⟩
  · obtain ⟨b, off, rfl, hob, hc⟩ := hb h0
    have e1 : (L.map bs).map (·.data.toList) = L := by rw [List.map_map]; exact List.map_id'' (fun _ => rfl) L
    have h := Tryz.strings_Join b off cap (L.map bs) (bs s) w hc (hk b hob) (by simp; omega) (by simpa using hcap) (by rw [e1]; exact hlen)
    rw [e1, List.length_map] at h
    exact h.mono fun e w' ⟨he, hw⟩ => ⟨_, he, hw, .lit _⟩


/-! Divided. -/
theorem splitK_len (c : UInt8) : ∀ (k : Nat) (s : Bs), (Lib.splitK [c] 0 k s).length ≤ k + 1 ∧ ((Lib.splitK [c] 0 k s).map fun x => x.length + 1).sum ≤ s.length + 1 := by
  intro k
  induction k with
  | zero => intro s; simp [Lib.splitK]
  | succ k ih =>
    intro s
    unfold Lib.splitK
    split
    · simp
    · rename_i h
      have h1 := Lib.index_ge s [c]
      have h2 := Lib.index_room s [c]
      have h3 : Lib.index s [c] ≠ -1 := fun e => h (by rw [e]; rfl)
      have h4 := h2 (by omega)
      obtain ⟨i, hi⟩ : ∃ i : Nat, Lib.index s [c] = i := ⟨(Lib.index s [c]).toNat, by omega⟩
      rw [hi] at h4 ⊢
      have h5 := ih (s.drop (i + 1))
      simp only [Int.toNat_natCast, Nat.add_zero, List.length_cons, List.length_nil, Nat.zero_add, List.map_cons, List.sum_cons, List.length_take, List.length_drop] at h4 h5 ⊢
      omega
theorem countFrom_splitK (c : UInt8) (s : Bs) : (Lib.splitK [c] 0 (Lib.count s [c]) s).length = Lib.count s [c] + 1 := by
  generalize hn : s.length = n
  induction n using Nat.strongRecOn generalizing s with
  | _ n ih =>
    have h1 := Lib.index_ge s [c]
    by_cases h : Lib.index s [c] = -1
    · rw [Lib.count_miss h]; rfl
    · obtain ⟨i, hi⟩ : ∃ i : Nat, Lib.index s [c] = i := ⟨(Lib.index s [c]).toNat, by omega⟩
      have h2 := Lib.index_room s [c] (by omega)
      simp only [List.length_cons, List.length_nil] at h2
      rw [Lib.count_hit (by simp) hi, Nat.add_comm 1, Lib.splitK, if_neg (by rw [hi]; simp), List.length_cons, hi]
      have := ih (s.drop (i + 1)).length (by simp; omega) (s.drop (i + 1)) rfl
      simp only [Int.toNat_natCast, List.length_cons, List.length_nil, Nat.zero_add]
      rw [this]
theorem split_ok (s : Bs) (c : UInt8) (hs : s.length < 4294967281) : FnOk Tryz.prog 99 [str s, str [c]] (strSl (Lib.split s [c])) := by
  refine ⟨by kernel_rfl, fun ok w vs hk hstd ha => ?_⟩
  have h0 : ArgsRd w ok ([Value.string (bs s), Value.string (bs [c])].map D.lit) vs := ha
  have hvs : vs = #[.string (bs s), .string (bs [c])] := lits_rd h0
  subst hvs
  obtain ⟨m, hm⟩ := hstd.2.1 0 3 .i64 (by kernel_rfl) (by kernel_rfl)
  have h := Tryz.strings_Split (bs s) (bs [c]) m w (by simpa using hs) hm (by simp)
  have hcnt : Lib.countB (bs s) (bs [c]) + 1 = (Lib.split s [c]).length := (countFrom_splitK c s).symm
  have hB : Lib.splitB (bs [c]) 0 (Lib.countB (bs s) (bs [c])) (bs s) = (Lib.split s [c]).map bs := by
    have e := Lib.splitB_data (bs [c]) 0 (Lib.countB (bs s) (bs [c])) (bs s)
    have e2 : (Lib.split s [c]).map bs = ((Lib.splitB (bs [c]) 0 (Lib.countB (bs s) (bs [c])) (bs s)).map (·.data.toList)).map bs := congrArg (List.map bs) e.symm
    rw [e2, List.map_map]
    exact (List.map_id'' (fun _ => rfl) _).symm
  rw [hcnt, hB] at h
  have hle := (splitK_len c (Lib.count s [c]) s).1
  have hcl := Lib.count_le s [c]
  have hsz : ∀ o : Obj, w.heap.size < (w.alloc o).heap.size := fun o => by unfold World.alloc; simp only [Array.size_push]; omega
  refine h.mono fun e w' ⟨he, hw⟩ => ⟨_, he, ?_, ?_⟩
  · subst hw; exact (Below.refl _ _).alloc (Nat.le_refl _) _
  · subst hw
    refine .sl (Lib.split s [c]).length _ _ (Lib.split s [c]).length 1 w.heap.size 0 (fun i _ => .string (bs ((Lib.split s [c])[i]?.getD []))) (Nat.le_refl _) (by rw [← hcnt]; show Lib.count s [c] + 1 ≤ maxLen; unfold maxLen; omega) (fun _ => ⟨rfl, .inr ⟨Nat.le_refl _, hsz _⟩⟩) (fun i hi => by simp [hi]) (fun i k hi hk => ?_) (fun i k d hi hd => ?_)
    · obtain rfl : k = 0 := by omega
      rw [World.cell?_alloc_new]
      simp [hi]
    · cases k with
      | zero =>
        rw [List.getElem?_map, List.getElem?_eq_getElem hi] at hd
        rw [List.getElem?_eq_getElem hi]
        cases hd
        exact .lit _
      | succ k =>
        rw [List.getElem?_map, List.getElem?_eq_getElem hi] at hd
        simp at hd
/-- Where a part begins. -/
def offs (L : List Bs) (k : Nat) : Nat := ((L.take k).map fun x => x.length + 1).sum
theorem offs_next (L : List Bs) (k : Nat) (h : k < L.length) : offs L (k + 1) = offs L k + (L[k]?.getD []).length + 1 := by
  unfold offs
  rw [List.take_add_one, List.getElem?_eq_getElem h, List.map_append, List.sum_append]
  simp only [Option.toList_some, List.map_cons, List.map_nil, List.sum_cons, List.sum_nil, Option.getD_some]
  omega
theorem offs_le (L : List Bs) (n : Nat) (h : (L.map fun x => x.length + 1).sum ≤ n) (k : Nat) (hk : k < L.length) : offs L k + (L[k]?.getD []).length + 1 ≤ n := by
  rw [← offs_next L k hk]
  unfold offs
  have e : ((L.take (k + 1)).map fun x => x.length + 1).sum + ((L.drop (k + 1)).map fun x => x.length + 1).sum = (L.map fun x => x.length + 1).sum := by
    rw [← List.sum_append, ← List.map_append, List.take_append_drop]
  omega
theorem split_offs (s : Bs) (c : UInt8) (k : Nat) (hk : k < (Lib.split s [c]).length) : offs (Lib.split s [c]) k + ((Lib.split s [c])[k]?.getD []).length ≤ s.length := by
  have := offs_le (Lib.split s [c]) (s.length + 1) (splitK_len c _ s).2 k hk
  omega
theorem split_len (s : Bs) (c : UInt8) : (Lib.split s [c]).length ≤ s.length + 2 := by
  have h1 := (splitK_len c (Lib.count s [c]) s).1
  have h2 := Lib.count_le s [c]
  have : (Lib.split s [c]).length ≤ Lib.count s [c] + 1 := h1
  omega
end Go.Proofs.YtpmfmjgnhdfakaaGreatDoor
