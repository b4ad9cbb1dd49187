/-
  strings.ContainsAny at a string of any length, in a set of ASCII bytes. (WITH run_drawN.)
-/
import Derived.Shelf.Strings.IndexAnyAll
import Derived.Test.YtglonkenckigiaaGreatDoorLibS
import Derived.Test.YtglonkenckigiaaGreatDoorKeyC2
import Derived.Sort.Walk0
set_option linter.unusedSimpArgs false
set_option linter.unusedVariables false
namespace Go.Proofs.YtglonkenckigiaaGreatDoor
open Go.Lw Go.RowKit Go.Shelf
set_option maxRecDepth 1000000
set_option maxHeartbeats 8000000

section
variable {P : Program} {ρ : Ren}
/-- The set as it lies behind its making. -/
abbrev setW (ρ : Ren) (cs : List UInt8) (w : World) : World := (w.alloc (.cells (Lib.setCells cs) (ρ.t 116))).alloc (.cells (Lib.setCells cs) (ρ.t 116))
theorem far_any (L : Lays.n153 P ρ) (hv : ∀ w, (zeroValue (ρ.t 116)).run P w = .ok (.agg (Array.replicate 256 (.bool false))) w) (hi : (P.info? (ρ.t 116)).map (·.size) = some 256) (s chars : ByteArray) (w : World) (h2 : 2 ≤ chars.size) (h8 : 8 < s.size)
    (hs : s.size ≤ 9223372036854775807) (hcs : chars.size < 4294967281) (hascii : ∀ (j : Nat) b, chars.data.toList[j]? = some b → b.toNat < 128) :
    Calls P (ρ.f 153) #[.string s, .string chars] w fun e w' => e = .returned (.int .i64 (Lib.indexAny s.data.toList chars.data.toList)) ∧ w' = setW ρ chars.data.toList w := by
  have hM := Any.strings_makeASCIISet { L with } hv hi chars w hcs hascii
  clear hascii
  have hemp : chars.toList.isEmpty = false := by
    rw [Lib.toList_data]
    cases h : chars.data.toList with
    | nil => have := Lib.size_eq chars; rw [h, List.length_nil] at this; omega
    | cons _ _ => rfl
  have hn1 : ((chars.size : Int) == 1) = false := beq_eq_false_iff_ne.2 (by omega)
  have h8z : decide ((8 : Int) < (s.size : Int)) = true := decide_eq_true (by omega)
  have hsz := Lib.setCells_size chars.data.toList
  have hst : (storeCells ⟨w.heap.size + 1, 0, none⟩ (Lib.setCells chars.data.toList).toList 0).run P ((w.alloc (.cells (Lib.setCells chars.data.toList) (ρ.t 116))).alloc (.cells (Array.replicate 256 (.bool false)) (ρ.t 116))) = .ok () (setW ρ chars.data.toList w) := by
    have := run_storeCells_new (P := P) (w.alloc (.cells (Lib.setCells chars.data.toList) (ρ.t 116))) (ρ.t 116) (Array.replicate 256 (.bool false)) (Lib.setCells chars.data.toList) (by rw [hsz]; exact hi) (by rw [hsz, Array.size_replicate]) (Lib.setCells_one _)
    simpa [setW] using this
  have hAt : Aside (∀ x : UInt8, (setW ρ chars.data.toList w).cell? ⟨w.heap.size + 1, x.toNat, none⟩ = some (.bool (chars.data.toList.contains x))) := fun x => by
    unfold setW
    rw [World.cell?_alloc_at _ _ _ _ (by simp), Lib.setCells_at]
  have t3 := L.t3; have a3 := L.a3; have z3 := L.z3; have v3 := L.v3
  have t4 := L.t4; have a4 := L.a4; have z4 := L.z4; have v4 := L.v4
  have t5 := L.t5; have a5 := L.a5; have z5 := L.z5; have v5 := L.v5
  have t9 := L.t9; have a9 := L.a9; have z9 := L.z9; have v9 := L.v9
  have t21 := L.t21; have a21 := L.a21; have z21 := L.z21; have v21 := L.v21
  have t116 := L.t116
  have e226 : ∀ args w, (callFunc (ρ.f 226) args).run P w = .ok (.enter (ρ.f 226) args) w := enters_of L.f226 (by kernel_rfl) rfl
  have e227 : ∀ args w, (callFunc (ρ.f 227) args).run P w = .ok (.enter (ρ.f 227) args) w := enters_of L.f227 (by kernel_rfl) rfl
  have e228 : ∀ args w, (callFunc (ρ.f 228) args).run P w = .ok (.enter (ρ.f 228) args) w := enters_of L.f228 (by kernel_rfl) rfl
  go_enter L.f153, Body.n153_ntmps ρ
  go_wp2_with (first
    | (go_at_fn (ρ.f 226); refine (Any.strings_shouldUseASCIISet { L with } _ _).mono ?_; rintro e w' ⟨rfl, hw⟩; rw [hw, h8z])
    | (go_at_fn (ρ.f 227); refine hM.mono ?_; rintro e w' ⟨rfl, hw⟩; rw [hw]))
  -- the set goes into a variable of its own, whole: by hand
  simp only [L.z116, Result.andThen, ↓reduceIte, hst]
  rw [Oper.upon_skip]
  go_wp2
  clear hM hst
  go_loopg [8] s.size (fun g s8 wx => ∃ i : Nat, i + g = s.size ∧ s8 = .int .i64 i ∧ wx = setW ρ chars.data.toList w ∧ Lib.NoAny s.data.toList chars.data.toList i)
  case atStart => exact ⟨0, by omega, rfl, rfl, Lib.NoAny.zero _ _⟩
  case round =>
    obtain ⟨i, hig, rfl, rfl, hno⟩ := hrel
    have HN : Aside (Lib.NoAny s.data.toList chars.data.toList i) := hno
    clear hno
    cases gk with
    | zero =>
      obtain rfl : i = s.size := by omega
      have hiz : ¬ ((s.size : Int) < (s.size : Int)) := by omega
      go_wp2
      go_ret
      exact ⟨by rw [Lib.indexAny_none (by rw [← Lib.size_eq]; exact HN.out)]; rfl, rfl⟩
    | succ g =>
      have hi : i < s.size := by omega
      have hiz : (i : Int) < (s.size : Int) := by omega
      obtain ⟨x, hx⟩ : ∃ x : UInt8, s[i]'hi = x := ⟨_, rfl⟩
      have Hx : Aside (s.data.toList[i]? = some x) := by rw [← hx]; exact Lib.data_getElem? s i hi
      have hcx := hAt.out x
      cases hin : chars.data.toList.contains x <;> rw [hin] at hcx
      · go_wp2_with (go_at_fn (ρ.f 228); refine (Any.asciiSet_contains { L with } _ x _ _ hcx).mono ?_; rintro e w' ⟨rfl, hw⟩; rw [hw])
        go_roundg g
        case measure => omega
        case rel => exact ⟨i + 1, by omega, by first | rfl | simp, rfl, HN.out.succ Hx.out hin⟩
      · go_wp2_with (go_at_fn (ρ.f 228); refine (Any.asciiSet_contains { L with } _ x _ _ hcx).mono ?_; rintro e w' ⟨rfl, hw⟩; rw [hw])
        go_ret
        exact ⟨by rw [Lib.indexAny_hit HN.out Hx.out hin]; rfl, rfl⟩
end
theorem indexAny_far (s chars : Bs) (h2 : 2 ≤ chars.length) (hs : s.length ≤ 9223372036854775807) (hl : chars.length < 4294967281) (hs8 : ∀ b ∈ s, b.toNat < 128) (ha : ∀ b ∈ chars, b.toNat < 128) : FnOk Tryz.prog 116 [str s, str chars] (int (Lib.indexAny s chars)) := by
  refine fnOk_litsB [.string (bs s), .string (bs chars)] (by kernel_rfl) fun w _ => ?_
  have hac : ∀ (j : Nat) b, (bs chars).data.toList[j]? = some b → b.toNat < 128 := fun j b hb => ha b (List.mem_of_getElem? hb)
  have has : ∀ (j : Nat) b, (bs s).data.toList[j]? = some b → b.toNat < 128 := fun j b hb => hs8 b (List.mem_of_getElem? hb)
  by_cases h8 : s.length ≤ 8
  · refine (Tryz.strings_IndexAny (zero_of_info (n := 256) (by kernel_rfl)).1 (bs s) (bs chars) w (by simp; omega) hl has hac).mono ?_
    rintro e w' ⟨rfl, h⟩
    exact ⟨rfl, h⟩
  · refine (far_any Tryz.lays153 (zero_of_info (n := 256) (by kernel_rfl)).1 (by kernel_rfl) (bs s) (bs chars) w (by simpa using h2) (by simp; omega) (by simpa using hs) (by simpa using hl) hac).mono ?_
    rintro e w' ⟨rfl, rfl⟩
    exact ⟨rfl, ((Below.refl _ w).alloc (Nat.le_refl _) _).alloc (by simp) _⟩
theorem containsAny_far (s chars : Bs) (h2 : 2 ≤ chars.length) (hs : s.length ≤ 9223372036854775807) (hl : chars.length < 4294967281) (hs8 : ∀ b ∈ s, b.toNat < 128) (ha : ∀ b ∈ chars, b.toNat < 128) : FnOk Tryz.prog 76 [str s, str chars] (tru (s.any fun c => chars.contains c)) := by
  have e : (s.any fun c => chars.contains c) = decide (0 ≤ Lib.indexAny s chars) := by
    clear hs8 hs
    induction s with
    | nil => rfl
    | cons b l ih =>
      have hge := Lib.indexAny_ge chars l
      rw [List.any_cons, ih, Lib.indexAny]
      cases chars.contains b with
      | true => simp
      | false =>
        simp only [Bool.false_or, Bool.false_eq_true, if_false, beq_iff_eq]
        split
        · rename_i h; rw [h]
        · rw [decide_eq_decide]; omega
  rw [e]
  refine fnOk Tryz.func76 rfl (by kernel_rfl) Tryz.ntmps76 _ rfl (by simp) fun C hc => ?_
  have h := indexAny_far s chars h2 hs hl hs8 ha
  generalize Lib.indexAny s chars = k at h ⊢
  repeat' (first | (first | refine Ya ?_ | refine Yb ?_ | refine Yc ?_ | refine Yd ?_ | refine Ye ?_ | refine Yf ?_ | refine Yg ?_ | refine Yh ?_ | refine Yi ?_ | refine Yj ?_ | refine Yk ?_ | refine Yl ?_ | refine Ym ?_ | refine Yn ?_ | refine Yo ?_ | refine Yp (h := ?_) | refine Yq ?_ | refine Yr ?_ | refine Ys ?_ | refine Zr hc (hk := ?_) | refine Zd hc (hk := ?_) | (refine Zc (ht := fun hb => ?_) (hf := fun hb => ?_) <;> (try simp at hb)) | fail) | (first | refine Zw hc (hf := by exact h) (hk := ?_) | refine Zq hc (hf := by exact h) (hk := ?_) | refine Zo hc (hk := ?_) | refine Zu hc (hk := ?_) | refine Ze hc (hk := ?_) | refine Zn hc (hk := ?_) | fail))
  (refine Zl hc (hr := ?_))
  simp
end Go.Proofs.YtglonkenckigiaaGreatDoor
/-
  ADDRESS: CheckSameness (program). (WITH run_drawN.)
-/
set_option linter.unusedSimpArgs false
set_option linter.unusedVariables false
namespace Go.Proofs.YtglonkenckigiaaGreatDoor
open Go.Lw Go.RowKit
set_option maxRecDepth 100000
set_option maxHeartbeats 1000000

theorem isNaN_ok (x : Int) : FnOk Tryz.prog 117 [int x] (tru false) := by
  refine fnOk Tryz.func117 rfl (by kernel_rfl) Tryz.ntmps117 _ rfl (by simp) fun C hc => ?_
  repeat' (first | (first | refine Ya ?_ | refine Yb ?_ | refine Yc ?_ | refine Yd ?_ | refine Ye ?_ | refine Yf ?_ | refine Yg ?_ | refine Yh ?_ | refine Yi ?_ | refine Yj ?_ | refine Yk ?_ | refine Yl ?_ | refine Ym ?_ | refine Yn ?_ | refine Yo ?_ | refine Yp (h := ?_) | refine Yq ?_ | refine Yr ?_ | refine Ys ?_ | refine Zr hc (hk := ?_) | refine Zd hc (hk := ?_) | (refine Zc (ht := fun hb => ?_) (hf := fun hb => ?_) <;> (try simp at hb)) | fail) | (first | refine Zo hc (hk := ?_) | refine Zu hc (hk := ?_) | refine Ze hc (hk := ?_) | refine Zn hc (hk := ?_) | fail))
  (refine Zl hc (hr := ?_))
  simp
theorem compare_ok (x y : Int) : FnOk Tryz.prog 78 [int x, int y] (int (Lib.compareInt x y)) := by
  refine fnOk Tryz.func78 rfl (by kernel_rfl) Tryz.ntmps78 _ rfl (by simp) fun C hc => ?_
  unfold Lib.compareInt
  have h1 := isNaN_ok x
  have h2 := isNaN_ok y
  repeat' (first | (first | refine Ya ?_ | refine Yb ?_ | refine Yc ?_ | refine Yd ?_ | refine Ye ?_ | refine Yf ?_ | refine Yg ?_ | refine Yh ?_ | refine Yi ?_ | refine Yj ?_ | refine Yk ?_ | refine Yl ?_ | refine Ym ?_ | refine Yn ?_ | refine Yo ?_ | refine Yp (h := ?_) | refine Yq ?_ | refine Yr ?_ | refine Ys ?_ | refine Zr hc (hk := ?_) | refine Zd hc (hk := ?_) | (refine Zc (ht := fun hb => ?_) (hf := fun hb => ?_) <;> (try simp at hb)) | fail) | (first | refine Zw hc (hf := by first | exact h1 | exact h2) (hk := ?_) | refine Zq hc (hf := by first | exact h1 | exact h2) (hk := ?_) | refine Zo hc (hk := ?_) | refine Zu hc (hk := ?_) | refine Ze hc (hk := ?_) | refine Zn hc (hk := ?_) | fail))
  all_goals try contradiction
  · rw [if_pos (by omega)]
    (refine Zl hc (hr := ?_))
    simp
  · rw [if_neg (by omega), if_pos (by omega)]
    (refine Zl hc (hr := ?_))
    simp
  · rw [if_neg (by omega), if_neg (by omega)]
    (refine Zl hc (hr := ?_))
    simp
theorem strCompare_ok (a b : Bs) : FnOk Tryz.prog 79 [str a, str b] (int (Lib.compareBytes a b)) :=
  fnOk_lits [.string (bs a), .string (bs b)] (by kernel_rfl) fun w _ => Tryz.strings_Compare (bs a) (bs b) w
/-- The first of two numbers that is not 0. -/
def or2 (x y : Int) : Int := if x ≠ 0 then x else y
def orL (l : List Int) (j : Nat) : Int := if j < l.length then (if l[j]?.getD 0 = 0 then orL l (j + 1) else l[j]?.getD 0) else 0
termination_by l.length - j
theorem orL_ok (l : List Int) (hl : l.length ≤ 1000) : FnOk Tryz.prog 77 [.sl l.length fun i => [int (l[i]?.getD 0)]] (int (orL l 0)) := by
  refine fnOk Tryz.func77 rfl (by kernel_rfl) Tryz.ntmps77 _ rfl (by simp) fun C hc => ?_
  repeat' (first | (first | refine Ya ?_ | refine Yb ?_ | refine Yc ?_ | refine Yd ?_ | refine Ye ?_ | refine Yf ?_ | refine Yg ?_ | refine Yh ?_ | refine Yi ?_ | refine Yj ?_ | refine Yk ?_ | refine Yl ?_ | refine Ym ?_ | refine Yn ?_ | refine Yo ?_ | refine Yp (h := ?_) | refine Yq ?_ | refine Yr ?_ | refine Ys ?_ | refine Zr hc (hk := ?_) | refine Zd hc (hk := ?_) | (refine Zc (ht := fun hb => ?_) (hf := fun hb => ?_) <;> (try simp at hb)) | fail) | (first | refine Zo hc (hk := ?_) | refine Zu hc (hk := ?_) | refine Ze hc (hk := ?_) | refine Zn hc (hk := ?_) | fail))
  refine ewp_loop (fun j : Nat => ⟨[(3, .d (int 0)), (6, .d (.sl l.length fun i => [int (l[i]?.getD 0)])), (7, .d (int l.length)), (8, .d (int j))], []⟩) (fun j => j ≤ l.length ∧ orL l 0 = orL l j) (fun j => l.length - j) 0 (by simp) (run_keep [3, 6, 7, 8] [] (by simp; exact Gives.mk) (by simp; exact Gives.mk)) ?_
  rintro j ⟨hj, hA⟩
  have hst : orL l j = if j < l.length then (if l[j]?.getD 0 = 0 then orL l (j + 1) else l[j]?.getD 0) else 0 := by rw [orL]
  repeat' (first | (first | refine Ya ?_ | refine Yb ?_ | refine Yc ?_ | refine Yd ?_ | refine Ye ?_ | refine Yf ?_ | refine Yg ?_ | refine Yh ?_ | refine Yi ?_ | refine Yj ?_ | refine Yk ?_ | refine Yl ?_ | refine Ym ?_ | refine Yn ?_ | refine Yo ?_ | refine Yp (h := ?_) | refine Yq ?_ | refine Yr ?_ | refine Ys ?_ | refine Zr hc (hk := ?_) | refine Zd hc (hk := ?_) | (refine Zc (ht := fun hb => ?_) (hf := fun hb => ?_) <;> (try simp at hb)) | fail) | (first | refine Zo hc (hk := ?_) | refine Zu hc (hk := ?_) | refine Ze hc (hk := ?_) | refine Zn hc (hk := ?_) | fail))
  · rw [hA, hst, if_pos (by assumption), if_neg hb]
    (refine Zl hc (hr := ?_))
    simp
  · exact ⟨j + 1, ⟨by omega, by rw [hA, hst, if_pos (by assumption), if_pos hb]⟩, by omega, run_back [3, 6, 7, 8] [] (by simp; exact Gives.mk) (by simp; exact Gives.mk) (by simp)⟩
  · rw [hA, hst, if_neg (by omega)]
    (refine Zl hc (hr := ?_))
    simp
theorem or_ok (x y : Int) : FnOk Tryz.prog 77 [.sl 2 fun i => [[int x], [int y]][i]?.getD [int 0]] (int (or2 x y)) := by
  have h := orL_ok [x, y] (by simp)
  have e : orL [x, y] 0 = or2 x y := by
    unfold or2
    rw [orL, orL, orL]
    simp
    by_cases hx : x = 0 <;> by_cases hy : y = 0 <;> simp [hx, hy]
  rw [e] at h
  refine FnOk.sim (.cons (.sl 2 _ _ fun i hi => ?_) .nil) h
  match i, hi with
  | 0, _ => rfl
  | 1, _ => rfl
theorem cmp_bad (a b : Bs) : 0 ≤ Lib.compareBytes a b ↔ Op.bytesLess b a = true ∨ b = a := by
  induction a generalizing b with
  | nil => cases b <;> simp [Lib.compareBytes, Op.bytesLess]
  | cons x a ih =>
    cases b with
    | nil => simp [Lib.compareBytes, Op.bytesLess]
    | cons y b =>
      rw [Lib.compareBytes, Op.bytesLess]
      rcases Nat.lt_trichotomy x.toNat y.toNat with h | h | h
      · have h1 : x < y := h
        have h2 : ¬ y < x := fun e => by have : y.toNat < x.toNat := e; omega
        have h3 : y ≠ x := fun e => by rw [e] at h; omega
        rw [if_pos h1]
        simp [h1, h2, h3]
      · have h0 : x = y := UInt8.toNat_inj.1 h
        subst h0
        have h1 : ¬ x < x := fun e => by have : x.toNat < x.toNat := e; omega
        rw [if_neg h1, if_neg h1]
        simp [h1, ih]
      · have h1 : y < x := h
        have h2 : ¬ x < y := fun e => by have : x.toNat < y.toNat := e; omega
        have h3 : y ≠ x := fun e => by rw [e] at h; omega
        rw [if_neg h2, if_pos h1]
        simp [h1, h2, h3]
/-- Both tests of the order agree. -/
theorem ord_same (a b : Rul) : 0 ≤ or2 (Lib.compareInt a.1 b.1) (Lib.compareBytes a.2 b.2) ↔ ordBad a b := by
  unfold or2 ordBad
  rcases Int.lt_trichotomy a.1 b.1 with h | h | h
  · rw [show Lib.compareInt a.1 b.1 = -1 by unfold Lib.compareInt; rw [if_pos h], if_pos (by decide)]
    constructor
    · intro e; omega
    · rintro (e | ⟨e, _⟩) <;> omega
  · rw [show Lib.compareInt a.1 b.1 = 0 by unfold Lib.compareInt; rw [if_neg (by omega), if_neg (by omega)], if_neg (by decide), cmp_bad]
    exact ⟨fun e => .inr ⟨h.symm, e⟩, fun e => e.elim (fun e => absurd e (by omega)) (·.2)⟩
  · rw [show Lib.compareInt a.1 b.1 = 1 by unfold Lib.compareInt; rw [if_neg (by omega), if_pos (by omega)], if_pos (by decide)]
    exact ⟨fun _ => .inl h, fun _ => by decide⟩
/-- What no name of a rule may have. -/
abbrev nameB : Bs := [47, 63, 38, 61, 37, 65, 66, 67, 68, 69, 70, 71, 72, 73, 74, 75, 76, 77, 78, 79, 80, 81, 82, 83, 84, 85, 86, 87, 88, 89, 90]
theorem bad_set : ∀ c : UInt8, nameB.contains c = badN c := by
  have h : ∀ i : Fin 256, nameB.contains (UInt8.ofNat i.val) = badN (UInt8.ofNat i.val) := by decide +kernel
  intro c
  have := h ⟨c.toNat, UInt8.toNat_lt c⟩
  simpa using this
theorem row_ascii {s : Bs} (h : isRow [] s) : ∀ b ∈ s, b.toNat < 128 := by
  intro b hb
  have := rowK_nobad s h b hb
  simp [badB] at this
  omega
theorem sameCheck_ok (R : List Rul) (hR : R.length ≤ 9223372036854775807) (hn : ∀ j, (rulAt R j).2.length ≤ 4611686018427387904) : FnOk Tryz.prog 36 [rulSl R] (int (sameC R)) := by
  refine fnOk Tryz.func36 rfl (by kernel_rfl) Tryz.ntmps36 _ rfl (by simp) fun C hc => ?_
  unfold sameC
  repeat' (first | (first | refine Ya ?_ | refine Yb ?_ | refine Yc ?_ | refine Yd ?_ | refine Ye ?_ | refine Yf ?_ | refine Yg ?_ | refine Yh ?_ | refine Yi ?_ | refine Yj ?_ | refine Yk ?_ | refine Yl ?_ | refine Ym ?_ | refine Yn ?_ | refine Yo ?_ | refine Yp (h := ?_) | refine Yq ?_ | refine Yr ?_ | refine Ys ?_ | refine Zr hc (hk := ?_) | refine Zd hc (hk := ?_) | (refine Zc (ht := fun hb => ?_) (hf := fun hb => ?_) <;> (try simp at hb)) | fail) | (first | refine Zo hc (hk := ?_) | refine Zu hc (hk := ?_) | refine Ze hc (hk := ?_) | refine Zn hc (hk := ?_) | fail))
  · rw [if_pos (by omega)]
    (refine Zl hc (hr := ?_))
    simp
  · rw [if_neg (by omega)]
    refine ewp_loop (fun j : Nat => ⟨[(0, .d (rulSl R)), (9, .d (rulSl R)), (10, .d (int R.length)), (11, .d (int j))], []⟩) (fun j => j ≤ R.length ∧ sameGo R 0 = sameGo R j) (fun j => R.length - j) 0 (by simp) (run_keep [0, 9, 10, 11] [] (by simp; exact Gives.mk) (by simp; exact Gives.mk)) ?_
    rintro j ⟨hj, hA⟩
    have hst : sameGo R j = if j < R.length then (if ruleE (rulAt R j) ≠ 0 then ruleE (rulAt R j) else if 0 < j ∧ 0 ≤ or2 (Lib.compareInt (rulAt R (j - 1)).1 (rulAt R j).1) (Lib.compareBytes (rulAt R (j - 1)).2 (rulAt R j).2) then 8 else sameGo R (j + 1)) else 0 := by
      rw [sameGo]
      by_cases ho : 0 ≤ or2 (Lib.compareInt (rulAt R (j - 1)).1 (rulAt R j).1) (Lib.compareBytes (rulAt R (j - 1)).2 (rulAt R j).2)
      · have ho2 := (ord_same _ _).1 ho
        simp only [ho, ho2, and_true]
      · have ho2 : ¬ ordBad (rulAt R (j - 1)) (rulAt R j) := fun e => ho ((ord_same _ _).2 e)
        simp only [ho, ho2, and_false, if_false]
    by_cases hlt : j < R.length
    rotate_left
    · repeat' (first | (first | refine Ya ?_ | refine Yb ?_ | refine Yc ?_ | refine Yd ?_ | refine Ye ?_ | refine Yf ?_ | refine Yg ?_ | refine Yh ?_ | refine Yi ?_ | refine Yj ?_ | refine Yk ?_ | refine Yl ?_ | refine Ym ?_ | refine Yn ?_ | refine Yo ?_ | refine Yp (h := ?_) | refine Yq ?_ | refine Yr ?_ | refine Ys ?_ | refine Zr hc (hk := ?_) | refine Zd hc (hk := ?_) | (refine Zc (ht := fun hb => ?_) (hf := fun hb => ?_) <;> (try simp at hb)) | fail) | (first | refine Zo hc (hk := ?_) | refine Zu hc (hk := ?_) | refine Ze hc (hk := ?_) | refine Zn hc (hk := ?_) | fail))
      all_goals try contradiction
      all_goals try (exfalso; omega)
      rw [hA, hst, if_neg hlt]
      (refine Zl hc (hr := ?_))
      simp
    rw [if_pos hlt] at hst
    have hI := isRow_ok (rulAt R j).2 [] (hn j)
    have hCA := containsAny_far (rulAt R j).2 nameB (by simp) (by have := hn j; omega) (by simp)
    have hO := or_ok (Lib.compareInt (rulAt R (j - 1)).1 (rulAt R j).1) (Lib.compareBytes (rulAt R (j - 1)).2 (rulAt R j).2)
    have hc1 := compare_ok (rulAt R (j - 1)).1 (rulAt R j).1
    have hc2 := strCompare_ok (rulAt R (j - 1)).2 (rulAt R j).2
    have hra := row_ascii (s := (rulAt R j).2)
    simp only [bad_set] at hCA
    generalize hE : ruleE (rulAt R j) = e at hst
    unfold ruleE namedR at hE
    generalize or2 (Lib.compareInt (rulAt R (j - 1)).1 (rulAt R j).1) (Lib.compareBytes (rulAt R (j - 1)).2 (rulAt R j).2) = oo at hO hst
    generalize Lib.compareInt (rulAt R (j - 1)).1 (rulAt R j).1 = c1 at hO hc1
    generalize Lib.compareBytes (rulAt R (j - 1)).2 (rulAt R j).2 = c2 at hO hc2
    have eN : (decide ((rulAt R j).2 = []) = (decide ((rulAt R j).1 = 5) || decide ((rulAt R j).1 = 7))) ↔ (((rulAt R j).1 == 5 || (rulAt R j).1 == 7) = List.isEmpty (rulAt R j).2) := by
      generalize rulAt R j = x
      obtain ⟨k, n⟩ := x
      rw [show decide ((k, n).2 = []) = List.isEmpty (k, n).2 by cases n <;> rfl]
      exact eq_comm
    have neg {a b : Bool} (h : a = !b) : ¬ a = b := fun e => by
      subst e
      revert h
      cases a <;> decide
    by_cases hrow : isRow [] (rulAt R j).2
    · rw [decide_eq_true hrow] at hI
      have hC := hCA (hra hrow) (by decide)
      generalize List.any (rulAt R j).2 badN = an at hC hE
      clear hCA hra
      repeat' (first | (first | refine Ya ?_ | refine Yb ?_ | refine Yc ?_ | refine Yd ?_ | refine Ye ?_ | refine Yf ?_ | refine Yg ?_ | refine Yh ?_ | refine Yi ?_ | refine Yj ?_ | refine Yk ?_ | refine Yl ?_ | refine Ym ?_ | refine Yn ?_ | refine Yo ?_ | refine Yp (h := ?_) | refine Yq ?_ | refine Yr ?_ | refine Ys ?_ | refine Zr hc (hk := ?_) | refine Zd hc (hk := ?_) | (refine Zc (ht := fun hb => ?_) (hf := fun hb => ?_) <;> (try simp at hb)) | fail) | (first | refine Zw hc (hf := by first | exact hI | exact hC) (hk := ?_) | refine Zq hc (hf := by first | exact hI | exact hC) (hk := ?_) | refine Zo hc (hk := ?_) | refine Zu hc (hk := ?_) | refine Ze hc (hk := ?_) | refine Zn hc (hk := ?_) | fail))
      · rw [if_pos hb] at hE
        subst hE
        rw [if_pos (by decide)] at hst
        rw [hA, hst]
        (refine Zl hc (hr := ?_))
        simp
      · rename_i g1
        rw [if_neg (fun h => by simp only [rulAt] at h; omega), if_pos (.inl (eN.2 hb))] at hE
        subst hE
        rw [if_pos (by decide)] at hst
        rw [hA, hst]
        (refine Zl hc (hr := ?_))
        simp
      · rename_i g1 g2
        rw [if_neg (fun h => by simp only [rulAt] at h; omega), if_neg (fun h => h.elim (fun h => neg g2 (eN.1 h)) (fun h => h hrow)), if_pos hb] at hE
        subst hE
        rw [if_pos (by decide)] at hst
        rw [hA, hst]
        (refine Zl hc (hr := ?_))
        simp
      · rename_i g1 g2
        rw [if_neg (fun h => by simp only [rulAt] at h; omega), if_neg (fun h => h.elim (fun h => neg g2 (eN.1 h)) (fun h => h hrow)), if_neg (by simpa using hb)] at hE
        subst hE
        rw [if_neg (by decide)] at hst
        clear eN neg hI hC g2 hrow
        by_cases h0 : 0 < j
        · (refine run_drawT 21 hc (by kernel_rfl) (by kernel_rfl) ?_; try simp only [List.take_succ_cons, List.take_zero, List.drop_succ_cons, List.drop_zero])
          repeat' (first | (first | refine ewp_seq ?_ | refine run_region hc (by simp [h0]; exact Ends.go) (by first | exact True.intro | omega | assumption | (simp; done) | (simp; omega) | (simp at *; omega)) ?_ | refine run_draw hc (by kernel_rfl) (by kernel_rfl) (by simp [h0]; exact Ends.go) (by first | exact True.intro | omega | assumption | (simp; done) | (simp; omega) | (simp at *; omega)) ?_ | refine ewp_scope ?_ | refine scopeQ_normal ?_ | refine scopeQ_ret ?_ | refine scopeQ_exit ?_ | refine ewp_skip ?_ | refine ewp_block ?_ | refine ewp_exit ?_ | refine ewp_label ?_ | refine thenQ_normal ?_ | refine thenQ_ret ?_ | refine thenQ_exit ?_ | refine blockQ_normal ?_ | refine blockQ_ret ?_ | refine blockQ_here ?_ | refine blockQ_there (by decide) ?_ | refine ewp_ret ?_ | refine opsW_nil ?_ | refine quietW_nil ?_ | (refine run_cond (by simp [h0]; exact Gives.mk) (fun hb => ?_) (fun hb => ?_) <;> (try simp at hb)) | fail) | (first | refine run_callW hc (by simp [h0]; exact Gives.mk) (by simp [h0]; exact Gives.mk) (by simp [h0]; exact Gives.mk) (by simp [h0]; exact Gives.mk) (by simp [h0]; exact Gives.mk) (fun _ => by first | exact hc1 | exact hc2 | exact hO) (by simp) (by simp) ?_ | refine run_callQ hc (by simp [h0]; exact Gives.mk) (by simp [h0]; exact Gives.mk) (by simp [h0]; exact Gives.mk) (by simp [h0]; exact Gives.mk) (by simp [h0]; exact Gives.mk) (fun _ => by first | exact hc1 | exact hc2 | exact hO) (by simp) (by simp) ?_ | refine run_ops hc (by simp [h0]; first | exact Ends.go | exact Ends.halt) (by decide) (by first | exact True.intro | omega | assumption | (simp; done) | (simp; omega) | (simp at *; omega)) ?_ | refine run_quiet hc (by simp [h0]; first | exact Ends.go | exact Ends.halt) (by decide) (by first | exact True.intro | omega | assumption | (simp; done) | (simp; omega) | (simp at *; omega)) ?_ | refine run_regionW hc (by simp [h0]; exact Ends.halt) (by first | exact True.intro | omega | assumption | (simp; done) | (simp; omega) | (simp at *; omega)) ?_ | refine run_drawN hc (by kernel_rfl) (by decide) (by kernel_rfl) (by simp [h0]; exact Ends.halt) (by first | exact True.intro | omega | assumption | (simp; done) | (simp; omega) | (simp at *; omega)) ?_ | fail) | (first | refine run_skip hc (by simp [h0]; exact Gives.mk) (by simp) ?_ | fail))
          · rw [hA, hst, if_pos ⟨h0, hb⟩]
            (refine Zl hc (hr := ?_))
            simp
          · exact ⟨j + 1, ⟨by omega, by rw [hA, hst, if_neg (fun h => by omega)]⟩, by omega, run_back [0, 9, 10, 11] [] (by simp; exact Gives.mk) (by simp; exact Gives.mk) (by simp)⟩
        · obtain rfl : j = 0 := by omega
          rw [if_neg (by omega)] at hst
          (refine run_drawT 21 hc (by kernel_rfl) (by kernel_rfl) ?_; try simp only [List.take_succ_cons, List.take_zero, List.drop_succ_cons, List.drop_zero])
          repeat' (first | (first | refine Ya ?_ | refine Yb ?_ | refine Yc ?_ | refine Yd ?_ | refine Ye ?_ | refine Yf ?_ | refine Yg ?_ | refine Yh ?_ | refine Yi ?_ | refine Yj ?_ | refine Yk ?_ | refine Yl ?_ | refine Ym ?_ | refine Yn ?_ | refine Yo ?_ | refine Yp (h := ?_) | refine Yq ?_ | refine Yr ?_ | refine Ys ?_ | refine Zr hc (hk := ?_) | refine Zd hc (hk := ?_) | (refine Zc (ht := fun hb => ?_) (hf := fun hb => ?_) <;> (try simp at hb)) | fail) | (first | refine run_skip hc (by simp; exact Gives.mk) (by simp) ?_ | fail) | (first | refine run_callW hc (by simp; exact Gives.mk) (by simp; exact Gives.mk) (by simp; exact Gives.mk) (by simp; exact Gives.mk) (by simp; exact Gives.mk) (fun _ => by first | exact (show FnOk _ _ _ (int 0) from by exfalso; simp_all; done)) (by simp) (by simp) ?_ | refine run_callQ hc (by simp; exact Gives.mk) (by simp; exact Gives.mk) (by simp; exact Gives.mk) (by simp; exact Gives.mk) (by simp; exact Gives.mk) (fun _ => by first | exact (show FnOk _ _ _ (int 0) from by exfalso; simp_all; done)) (by simp) (by simp) ?_ | refine run_ops hc (by simp; first | exact Ends.go | exact Ends.halt) (by decide) (by first | exact True.intro | omega | assumption | (simp; done) | (simp; omega) | (simp at *; omega)) ?_ | refine run_quiet hc (by simp; first | exact Ends.go | exact Ends.halt) (by decide) (by first | exact True.intro | omega | assumption | (simp; done) | (simp; omega) | (simp at *; omega)) ?_ | refine run_regionW hc (by simp; exact Ends.halt) (by first | exact True.intro | omega | assumption | (simp; done) | (simp; omega) | (simp at *; omega)) ?_ | refine run_drawN hc (by kernel_rfl) (by decide) (by kernel_rfl) (by simp; exact Ends.halt) (by first | exact True.intro | omega | assumption | (simp; done) | (simp; omega) | (simp at *; omega)) ?_ | fail))
          exact ⟨0 + 1, ⟨by omega, by rw [hA, hst]⟩, by omega, run_back [0, 9, 10, 11] [] (by simp; exact Gives.mk) (by simp; exact Gives.mk) (by simp)⟩
      · exfalso; omega
    · rw [decide_eq_false hrow] at hI
      clear hCA hra
      repeat' (first | (first | refine Ya ?_ | refine Yb ?_ | refine Yc ?_ | refine Yd ?_ | refine Ye ?_ | refine Yf ?_ | refine Yg ?_ | refine Yh ?_ | refine Yi ?_ | refine Yj ?_ | refine Yk ?_ | refine Yl ?_ | refine Ym ?_ | refine Yn ?_ | refine Yo ?_ | refine Yp (h := ?_) | refine Yq ?_ | refine Yr ?_ | refine Ys ?_ | refine Zr hc (hk := ?_) | refine Zd hc (hk := ?_) | (refine Zc (ht := fun hb => ?_) (hf := fun hb => ?_) <;> (try simp at hb)) | fail) | (first | refine Zw hc (hf := by exact hI) (hk := ?_) | refine Zq hc (hf := by exact hI) (hk := ?_) | refine Zo hc (hk := ?_) | refine Zu hc (hk := ?_) | refine Ze hc (hk := ?_) | refine Zn hc (hk := ?_) | fail) | (first | refine run_skip hc (by simp; exact Gives.mk) (by simp) ?_ | fail))
      all_goals try contradiction
      · rw [if_pos hb] at hE
        subst hE
        rw [if_pos (by decide)] at hst
        rw [hA, hst]
        (refine Zl hc (hr := ?_))
        simp
      · rename_i g1
        rw [if_neg (fun h => by simp only [rulAt] at h; omega), if_pos (.inl (eN.2 hb))] at hE
        subst hE
        rw [if_pos (by decide)] at hst
        rw [hA, hst]
        (refine Zl hc (hr := ?_))
        simp
      · rename_i g1
        rw [if_neg (fun h => by simp only [rulAt] at h; omega), if_pos (.inr hrow)] at hE
        subst hE
        rw [if_pos (by decide)] at hst
        rw [hA, hst]
        (refine Zl hc (hr := ?_))
        simp
      · exfalso; omega
end Go.Proofs.YtglonkenckigiaaGreatDoor
