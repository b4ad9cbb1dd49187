/-
  STRINGS: plain functions on bytes; and the contracts of small functions.
-/
import Derived.Test.YtglonkenckigiaaGreatDoorLwTypes
import Derived.Test.YtglonkenckigiaaGreatDoorShelf
set_option linter.unusedSimpArgs false
set_option linter.unusedVariables false
namespace Go.Proofs.YtglonkenckigiaaGreatDoor
open Go.Lw
set_option maxRecDepth 100000
set_option maxHeartbeats 400000

abbrev Bs := List UInt8
abbrev int (n : Int) : D := .lit (.int .i64 n)
abbrev tru (b : Bool) : D := .lit (.bool b)
abbrev u8 (c : UInt8) : D := .lit (.int .u8 (c.toNat : Int))
abbrev str (l : Bs) : D := .lit (.string (bs l))

/-! Bytes. -/
def isUp (c : UInt8) : Bool := decide (65 ≤ c.toNat) && decide (c.toNat ≤ 90)
def isLo (c : UInt8) : Bool := decide (97 ≤ c.toNat) && decide (c.toNat ≤ 122)
def isLet (c : UInt8) : Bool := isLo c || isUp c
def isDig (c : UInt8) : Bool := decide (48 ≤ c.toNat) && decide (c.toNat ≤ 57)
def isBl (c : UInt8) : Bool := decide (c.toNat = 9) || decide (c.toNat = 10) || decide (c.toNat = 12) || decide (c.toNat = 13) || decide (c.toNat = 32)
def low (c : UInt8) : UInt8 := if isUp c then c + 32 else c
def small (l : Bs) : Bs := l.map low
theorem low_toNat (c : UInt8) : (low c).toNat = if isUp c then c.toNat + 32 else c.toNat := by
  unfold low
  split
  · rename_i h
    simp only [isUp, Bool.and_eq_true, decide_eq_true_eq] at h
    rw [UInt8.toNat_add]
    simp
    omega
  · rfl

theorem low_up (c : UInt8) (h : 65 ≤ (c.toNat : Int) ∧ (c.toNat : Int) ≤ 90) : ((low c).toNat : Int) = c.toNat + 97 - 65 := by
  rw [low_toNat, if_pos (by simp [isUp]; omega)]
  omega

/-- Bytes up to a place turned, from there on as they were. -/
def part (f : UInt8 → UInt8) (l : Bs) (j : Nat) : Bs := (l.take j).map f ++ l.drop j
@[simp] theorem part_length (f : UInt8 → UInt8) (l : Bs) (j : Nat) (hj : j ≤ l.length) : (part f l j).length = l.length := by simp [part]; omega
theorem part_at (f : UInt8 → UInt8) (l : Bs) (j : Nat) (hj : j ≤ l.length) : (part f l j)[j]?.getD 0 = l[j]?.getD 0 := by
  unfold part
  rw [List.getElem?_append_right (by simp; omega)]
  simp [Nat.min_eq_left hj]
theorem part_set (f : UInt8 → UInt8) (l : Bs) (j : Nat) (hj : j < l.length) : (part f l j).set j (f (l[j]?.getD 0)) = part f l (j + 1) := by
  unfold part
  have e1 : ((l.take j).map f).length = j := by simp; omega
  have e2 : l[j]?.getD 0 = l[j] := by simp [hj]
  have e3 : l.take (j + 1) = l.take j ++ [l[j]] := by rw [List.take_add_one]; simp [hj]
  rw [List.set_append_right _ _ (by omega), e1, Nat.sub_self, List.drop_eq_getElem_cons hj, List.set_cons_zero, e2, e3, List.map_append, List.append_assoc]
  rfl
theorem part_same (f : UInt8 → UInt8) (l : Bs) (j : Nat) (hj : j < l.length) (hf : f (l[j]?.getD 0) = l[j]?.getD 0) : part f l j = part f l (j + 1) := by
  rw [← part_set f l j hj, hf, ← part_at f l j (by omega)]
  have hl : j < (part f l j).length := by rw [part_length f l j (by omega)]; exact hj
  simp [hl]

theorem small_ok (l : Bs) (hm : l.length ≤ 9223372036854775807) : FnOk Tryz.prog 47 [str l] (str (small l)) := by
  refine fnOk Tryz.func47 rfl (by kernel_rfl) Tryz.ntmps47 _ rfl (by simp) fun C hc => ?_
  repeat' (first | refine ewp_seq ?_ | refine run_region hc (by simp; exact Ends.go) (by first | exact True.intro | omega | assumption | (simp; done) | (simp; omega) | (simp at *; omega)) ?_ | refine run_draw hc (by kernel_rfl) (by kernel_rfl) (by simp; exact Ends.go) (by first | exact True.intro | omega | assumption | (simp; done) | (simp; omega) | (simp at *; omega)) ?_ | refine ewp_scope ?_ | refine scopeQ_normal ?_ | refine scopeQ_ret ?_ | refine scopeQ_exit ?_ | refine ewp_skip ?_ | refine ewp_block ?_ | refine ewp_exit ?_ | refine ewp_label ?_ | refine thenQ_normal ?_ | refine thenQ_ret ?_ | refine thenQ_exit ?_ | refine blockQ_normal ?_ | refine blockQ_ret ?_ | refine blockQ_here ?_ | refine blockQ_there (by decide) ?_ | refine ewp_ret ?_ | refine opsW_nil ?_ | refine quietW_nil ?_ | (refine run_cond (by simp; exact Gives.mk) (fun hb => ?_) (fun hb => ?_) <;> (try simp at hb)) | fail)
  refine ewp_loop (fun x : Nat × Bs => ⟨[(3, .os 7 x.2.length), (8, .os 7 x.2.length), (9, .d (int l.length)), (10, .d (int x.1))], [(7, .own 5 1 (false, [.lit (.int .u8 0)]) (x.2.map byteRow))]⟩) (fun x => x.1 ≤ l.length ∧ x.2 = part low l x.1) (fun x => l.length - x.1) (0, l) ⟨by simp, by simp [part]⟩ (run_keep [3, 8, 9, 10] [7] (by simp; exact Gives.mk) (by simp; exact Gives.mk)) ?_
  rintro ⟨j, m⟩ ⟨hj, hm1⟩
  simp only at hj hm1 ⊢
  have hml : m.length = l.length := by rw [hm1]; exact part_length low l j hj
  have ha : m[j]?.getD 0 = l[j]?.getD 0 := by rw [hm1]; exact part_at low l j hj
  repeat' (first | refine ewp_seq ?_ | refine run_region hc (by simp; exact Ends.go) (by first | exact True.intro | omega | assumption | (simp; done) | (simp; omega) | (simp at *; omega)) ?_ | refine run_draw hc (by kernel_rfl) (by kernel_rfl) (by simp; exact Ends.go) (by first | exact True.intro | omega | assumption | (simp; done) | (simp; omega) | (simp at *; omega)) ?_ | refine ewp_scope ?_ | refine scopeQ_normal ?_ | refine scopeQ_ret ?_ | refine scopeQ_exit ?_ | refine ewp_skip ?_ | refine ewp_block ?_ | refine ewp_exit ?_ | refine ewp_label ?_ | refine thenQ_normal ?_ | refine thenQ_ret ?_ | refine thenQ_exit ?_ | refine blockQ_normal ?_ | refine blockQ_ret ?_ | refine blockQ_here ?_ | refine blockQ_there (by decide) ?_ | refine ewp_ret ?_ | refine opsW_nil ?_ | refine quietW_nil ?_ | (refine run_cond (by simp; exact Gives.mk) (fun hb => ?_) (fun hb => ?_) <;> (try simp at hb)) | fail)
  · refine ⟨(j + 1, m.set j (low (l[j]?.getD 0))), ⟨by simp; omega, ?_⟩, by simp; omega, run_back [3, 8, 9, 10] [7] (by simp; exact Gives.mk) (by simp; exact Gives.mk) (by rw [ha] at hb; simp [ha, low_up _ hb])⟩
    simp only
    rw [hm1, part_set low l j (by omega)]
  · refine ⟨(j + 1, m), ⟨by simp; omega, ?_⟩, by simp; omega, run_back [3, 8, 9, 10] [7] (by simp; exact Gives.mk) (by simp; exact Gives.mk) (by simp)⟩
    simp only
    rw [hm1]
    refine part_same low l j (by omega) ?_
    rw [ha] at hb
    unfold low isUp
    rw [if_neg (by simp; omega)]
  · (refine run_leave hc (by simp; exact Gives.mk) ?_)
    simp [hm1, part, small, List.take_of_length_le (show l.length ≤ j by omega), List.drop_of_length_le (show l.length ≤ j by omega)]

/-! As far as bytes are of a kind. -/
def skip (p : UInt8 → Bool) (l : Bs) (i : Nat) : Nat := i + ((l.drop i).takeWhile p).length
theorem skip_step (p : UInt8 → Bool) (l : Bs) (i : Nat) (h : i < l.length) : skip p l i = if p (l[i]?.getD 0) then skip p l (i + 1) else i := by
  unfold skip
  rw [List.drop_eq_getElem_cons h, List.takeWhile_cons]
  have : l[i]?.getD 0 = l[i] := by simp [h]
  rw [this]
  split
  · simp; omega
  · simp
theorem skip_end (p : UInt8 → Bool) (l : Bs) (i : Nat) (h : l.length ≤ i) : skip p l i = i := by
  unfold skip
  rw [List.drop_of_length_le h]; simp
theorem skip_ge (p : UInt8 → Bool) (l : Bs) (i : Nat) : i ≤ skip p l i := by unfold skip; omega
theorem skip_le (p : UInt8 → Bool) (l : Bs) (i : Nat) (h : i ≤ l.length) : skip p l i ≤ l.length := by
  unfold skip
  have := (List.takeWhile_prefix (l := l.drop i) p).length_le
  simp at this; omega
end Go.Proofs.YtglonkenckigiaaGreatDoor
