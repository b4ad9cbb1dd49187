/-
  FRONTIER: numbers of a text (both sides). (WITH run_drawN.)
-/
import Derived.Test.YtnainpghpjelcaaGreatDoorFnD
import Derived.Test.YtnainpghpjelcaaGreatDoorR1D
set_option linter.unusedSimpArgs false
set_option linter.unusedVariables false
namespace Go.Proofs.YtnainpghpjelcaaGreatDoor
open Go.Lw Go.RowKit
set_option maxRecDepth 100000
set_option maxHeartbeats 2000000

theorem atoi18_ok (s : Bs) (h1 : 1 ≤ s.length) (h5 : s.length ≤ 12) (h : s.all isDig = true) : FnOk Tryz.prog 193 [str s] (.tup [int (digN s), .lit .nilIface]) :=
  ⟨by kernel_rfl, fun ok w vs _ hstd ha => by
    have h0 : ArgsRd w ok ([Value.string (bs s)].map D.lit) vs := ha
    obtain rfl : vs = #[.string (bs s)] := lits_rd h0
    refine (Tryz.strconv_Atoi (bs s) (digN s) (by simp; omega) (by simpa using atoi_digits h1 h) w).mono fun e w' ⟨he, t, hw⟩ => ⟨_, he, ?_, ?_⟩
    · exact hw ▸ ⟨rfl, rfl, rfl, by rw [Lib.bytesWorld_size]; omega, fun k hk => Lib.bytesWorld_at_old w _ t k hk⟩
    · exact .tup _ _ (fun i => (#[Value.int .i64 (digN s), .nilIface])[i]?.getD undef) rfl (fun i hi => by
        match i, hi with
        | 0, _ => rfl
        | 1, _ => rfl) (fun i d hd => by
        match i, hd with
        | 0, hd => cases hd; exact .lit _
        | 1, hd => cases hd; exact .lit _)⟩
/-- Is a string a number of at most 12 digits, without a needless 0? -/
def numOk (s : Bs) : Bool := decide (1 ≤ s.length ∧ s.length ≤ 12 ∧ s.all isDig = true ∧ ¬ ((s[0]?.getD 0).toNat = 48 ∧ s ≠ [48]))
def numV (s : Bs) : Int := if numOk s = true then (digN s : Int) else 0
theorem number_ok (s : Bs) (hm : s.length ≤ 9223372036854775807) : FnOk Tryz.prog 141 [str s] (.tup [int (numV s), tru (numOk s)]) := by
  refine fnOk Tryz.func141 rfl (by kernel_rfl) Tryz.ntmps141 _ rfl (by simp) fun C hc => ?_
  have htr := trim_ok s [48, 49, 50, 51, 52, 53, 54, 55, 56, 57] hm (by simp) (by decide)
  have hdg := trimS_digits s
  have hat := atoi18_ok s
  generalize Lib.trimS s [48, 49, 50, 51, 52, 53, 54, 55, 56, 57] = u at htr hdg
  by_cases hn : numOk s = true
  · have hv : numV s = (digN s : Int) := if_pos hn
    rw [hv, hn]
    unfold numOk at hn
    rw [decide_eq_true_iff] at hn
    obtain ⟨n1, n2, n3, n4⟩ := hn
    have hu := hdg.2 n3
    subst hu
    have hat := hat n1 n2 n3
    generalize digN s = v at hat ⊢
    repeat' (first | (first | refine Ya ?_ | refine Yb ?_ | refine Yc ?_ | refine Yd ?_ | refine Ye ?_ | refine Yf ?_ | refine Yg ?_ | refine Yh ?_ | refine Yi ?_ | refine Yj ?_ | refine Yk ?_ | refine Yl ?_ | refine Ym ?_ | refine Yn ?_ | refine Yo ?_ | refine Yp (h := ?_) | refine Yq ?_ | refine Yr ?_ | refine Ys ?_ | refine Zr hc (hk := ?_) | refine Zd hc (hk := ?_) | (refine Zc (ht := fun hb => ?_) (hf := fun hb => ?_) <;> (try simp at hb)) | fail) | (first | refine Zw hc (hf := by first | exact htr | exact hat) (hk := ?_) | refine Zq hc (hf := by first | exact htr | exact hat) (hk := ?_) | refine Zo hc (hk := ?_) | refine Zu hc (hk := ?_) | refine Ze hc (hk := ?_) | refine Zn hc (hk := ?_) | fail))
    · exfalso
      rcases hb with (h | h) | h
      · omega
      · omega
      · exact n4 ⟨by omega, h.2⟩
    · (refine Zl hc (hr := ?_))
      simp
  · have hv : numV s = 0 := if_neg hn
    have hn' : numOk s = false := by simpa using hn
    rw [hv, hn']
    have hno : ¬ (1 ≤ s.length ∧ s.length ≤ 12 ∧ s.all isDig = true ∧ ¬ ((s[0]?.getD 0).toNat = 48 ∧ s ≠ [48])) := fun e => hn (decide_eq_true e)
    clear hn hn' hv hat
    repeat' (first | (first | refine Ya ?_ | refine Yb ?_ | refine Yc ?_ | refine Yd ?_ | refine Ye ?_ | refine Yf ?_ | refine Yg ?_ | refine Yh ?_ | refine Yi ?_ | refine Yj ?_ | refine Yk ?_ | refine Yl ?_ | refine Ym ?_ | refine Yn ?_ | refine Yo ?_ | refine Yp (h := ?_) | refine Yq ?_ | refine Yr ?_ | refine Ys ?_ | refine Zr hc (hk := ?_) | refine Zd hc (hk := ?_) | (refine Zc (ht := fun hb => ?_) (hf := fun hb => ?_) <;> (try simp at hb)) | fail) | (first | refine Zw hc (hf := by exact htr) (hk := ?_) | refine Zq hc (hf := by exact htr) (hk := ?_) | refine Zo hc (hk := ?_) | refine Zu hc (hk := ?_) | refine Ze hc (hk := ?_) | refine Zn hc (hk := ?_) | fail))
    · (refine Zl hc (hr := ?_))
      simp
    · exfalso
      exact hno ⟨by omega, by omega, hdg.1 hb.1.2, fun e => e.2 (hb.2 (by omega))⟩
def wbx (L : D) (b : Bool) : List (Nat × O) := [(100000, .box 178 [.d L, .d (tru b)])]
/-! Numbers in a row. -/
def numsOk (n : Nat) (g : Nat → Bs) : Bool := (List.range n).all fun i => numOk (g i)
def numsV (n : Nat) (g : Nat → Bs) : List Int := (List.range n).map fun i => numV (g i)
@[simp] theorem numsV_length (n : Nat) (g : Nat → Bs) : (numsV n g).length = n := by simp [numsV]
theorem numsV_next (n : Nat) (g : Nat → Bs) : numsV (n + 1) g = numsV n g ++ [numV (g n)] := by simp [numsV, List.range_succ]
theorem numsOk_next (n : Nat) (g : Nat → Bs) : numsOk (n + 1) g = (numsOk n g && numOk (g n)) := by simp [numsOk, List.range_succ]
theorem numsOk_no {n j : Nat} {g : Nat → Bs} (hj : j < n) (h : numOk (g j) = false) : numsOk n g = false := by
  unfold numsOk
  rw [Bool.eq_false_iff]
  intro e
  have := List.all_eq_true.1 e j (List.mem_range.2 hj)
  rw [h] at this
  cases this
theorem numbers_ok (n : Nat) (g : Nat → Bs) (hn : n ≤ 5000002) (hg : ∀ i, (g i).length ≤ 9223372036854775807) : FnOk Tryz.prog 140 [.sl n fun i => [str (g i)]] (.tup [if numsOk n g = true then intSl (numsV n g) else .lit (.slice none 0 0), tru (numsOk n g)]) := by
  refine fnOk Tryz.func140 rfl (by kernel_rfl) Tryz.ntmps140 _ rfl (by simp) fun C hc => ?_
  repeat' (first | (first | refine Ya ?_ | refine Yb ?_ | refine Yc ?_ | refine Yd ?_ | refine Ye ?_ | refine Yf ?_ | refine Yg ?_ | refine Yh ?_ | refine Yi ?_ | refine Yj ?_ | refine Yk ?_ | refine Yl ?_ | refine Ym ?_ | refine Yn ?_ | refine Yo ?_ | refine Yp (h := ?_) | refine Yq ?_ | refine Yr ?_ | refine Ys ?_ | refine Zr hc (hk := ?_) | refine Zd hc (hk := ?_) | (refine Zc (ht := fun hb => ?_) (hf := fun hb => ?_) <;> (try simp at hb)) | fail) | (first | refine Zo hc (hk := ?_) | refine Zu hc (hk := ?_) | refine Ze hc (hk := ?_) | refine Zn hc (hk := ?_) | fail))
  refine ewp_loop (fun j : Nat => ⟨[(4, .os 40000 j), (9, .d (.sl n fun i => [str (g i)])), (10, .d (int n)), (11, .d (int j))], [(40000, .own 3 1 (true, [int 0]) ((numsV j g).map fun y => [int y]))]⟩) (fun j => j ≤ n ∧ numsOk j g = true) (fun j => n - j) 0 (by simp [numsOk]) (run_keepB [(4, none, 40000, 3, [int 0])] [4, 9, 10, 11] [40000] (by simp; exact Gives.mk) (by simp; exact Gives.mk) (by simp; exact Gives.mk)) ?_
  rintro j ⟨hj, hA⟩
  have h1 := number_ok (g j) (hg j)
  have hnx := numsV_next j g
  have hnk := numsOk_next j g
  have hno := fun h : j < n => numsOk_no (g := g) h
  by_cases hlt : j < n
  · have hno := hno hlt
    cases hk : numOk (g j)
    · rw [hk] at h1
      rw [hno hk, if_neg (by decide)]
      repeat' (first | (first | refine Ya ?_ | refine Yb ?_ | refine Yc ?_ | refine Yd ?_ | refine Ye ?_ | refine Yf ?_ | refine Yg ?_ | refine Yh ?_ | refine Yi ?_ | refine Yj ?_ | refine Yk ?_ | refine Yl ?_ | refine Ym ?_ | refine Yn ?_ | refine Yo ?_ | refine Yp (h := ?_) | refine Yq ?_ | refine Yr ?_ | refine Ys ?_ | refine Zr hc (hk := ?_) | refine Zd hc (hk := ?_) | (refine Zc (ht := fun hb => ?_) (hf := fun hb => ?_) <;> (try simp at hb)) | fail) | (first | refine Zw hc (hf := by exact h1) (hk := ?_) | refine Zq hc (hf := by exact h1) (hk := ?_) | refine Zo hc (hk := ?_) | refine Zu hc (hk := ?_) | refine Ze hc (hk := ?_) | refine Zn hc (hk := ?_) | fail))
      all_goals try contradiction
      all_goals try (exfalso; omega)
      (refine Zl hc (hr := ?_))
      simp
    · rw [hk] at h1 hnk
      clear hno
      repeat' (first | (first | refine Ya ?_ | refine Yb ?_ | refine Yc ?_ | refine Yd ?_ | refine Ye ?_ | refine Yf ?_ | refine Yg ?_ | refine Yh ?_ | refine Yi ?_ | refine Yj ?_ | refine Yk ?_ | refine Yl ?_ | refine Ym ?_ | refine Yn ?_ | refine Yo ?_ | refine Yp (h := ?_) | refine Yq ?_ | refine Yr ?_ | refine Ys ?_ | refine Zr hc (hk := ?_) | refine Zd hc (hk := ?_) | (refine Zc (ht := fun hb => ?_) (hf := fun hb => ?_) <;> (try simp at hb)) | fail) | (first | refine Zw hc (hf := by exact h1) (hk := ?_) | refine Zq hc (hf := by exact h1) (hk := ?_) | refine Zo hc (hk := ?_) | refine Zu hc (hk := ?_) | refine Ze hc (hk := ?_) | refine Zn hc (hk := ?_) | fail))
      all_goals try contradiction
      all_goals try (exfalso; omega)
      exact ⟨j + 1, ⟨by omega, by rw [hnk, hA]; rfl⟩, by omega, run_back [4, 9, 10, 11] [40000] (by simp; exact Gives.mk) (by simp; exact Gives.mk) (by rw [hnx, List.take_of_length_le (by simp)]; simp)⟩
  · obtain rfl : j = n := by omega
    rw [hA, if_pos rfl]
    (first | refine run_sealW 40000 hc (by simp; exact Gives.mk) (by simp) ?_ | refine run_seal 40000 hc (by simp; exact Gives.mk) (by simp) ?_)
    repeat' (first | (first | refine Ya ?_ | refine Yb ?_ | refine Yc ?_ | refine Yd ?_ | refine Ye ?_ | refine Yf ?_ | refine Yg ?_ | refine Yh ?_ | refine Yi ?_ | refine Yj ?_ | refine Yk ?_ | refine Yl ?_ | refine Ym ?_ | refine Yn ?_ | refine Yo ?_ | refine Yp (h := ?_) | refine Yq ?_ | refine Yr ?_ | refine Ys ?_ | refine Zr hc (hk := ?_) | refine Zd hc (hk := ?_) | (refine Zc (ht := fun hb => ?_) (hf := fun hb => ?_) <;> (try simp at hb)) | fail) | (first | refine Zw hc (hf := by exact h1) (hk := ?_) | refine Zq hc (hf := by exact h1) (hk := ?_) | refine Zo hc (hk := ?_) | refine Zu hc (hk := ?_) | refine Ze hc (hk := ?_) | refine Zn hc (hk := ?_) | fail))
    all_goals try (exfalso; omega)
    (refine Zl hc (hr := ?_))
    simp
end Go.Proofs.YtnainpghpjelcaaGreatDoor
/-
  FRONTIER: a line of a text (program). (WITH run_drawN.)
-/
set_option linter.unusedSimpArgs false
set_option linter.unusedVariables false
namespace Go.Proofs.YtnainpghpjelcaaGreatDoor
open Go.Lw Go.RowKit
set_option maxRecDepth 100000
set_option maxHeartbeats 2000000

abbrev sFrontier : Bs := [102, 114, 111, 110, 116, 105, 101, 114]
abbrev sWant : Bs := [119, 97, 110, 116]
abbrev sHost : Bs := [104, 111, 115, 116]
abbrev sBusy : Bs := [98, 117, 115, 121]
abbrev sIdle : Bs := [105, 100, 108, 101]
abbrev wat (L : List Bs) (i : Nat) : Bs := L[i]?.getD []
/-- A line, taken. -/
def lineC (f : Frt) (first : Bool) (L : List Bs) : Option Frt :=
  if first = true then
    if wat L 0 = sFrontier ∧ L.length = 3 ∧ numOk (wat L 1) = true ∧ numOk (wat L 2) = true then some { f with budget := numV (wat L 1), window := numV (wat L 2) } else none
  else if wat L 0 = sWant ∧ L.length = 4 ∧ f.hosts.length = 0 then
    if numOk (wat L 1) = true ∧ numOk (wat L 2) = true ∧ wat L 3 ≠ [] then some { f with items := f.items ++ [(wat L 3, numV (wat L 1), numV (wat L 2))] } else none
  else if wat L 0 = sHost ∧ 4 ≤ L.length then
    if numOk (wat L 2) = true ∧ numsOk (L.length - 4) (fun i => wat L (4 + i)) = true ∧ wat L 1 ≠ [] ∧ (wat L 3 = sBusy ∨ wat L 3 = sIdle) then
      some { f with hosts := f.hosts ++ [(wat L 1, numV (wat L 2), decide (wat L 3 = sBusy), numsV (L.length - 4) (fun i => wat L (4 + i)))] } else none
  else none
/-- No starts. -/
def noInts : D := intSl []
def frB (f : Frt) : List (Nat × O) :=
  [(100000, .box 25 [.os 50001 f.items.length, .os 50002 f.hosts.length, .d (int f.budget), .d (int f.window)]),
   (50001, .own 35 3 (true, [str [], int 0, int 0]) (f.items.map wntCells)),
   (50002, .own 92 4 (true, [str [], int 0, tru false, noInts]) (f.hosts.map hstCells))]
theorem numsV_at (n : Nat) (g : Nat → Bs) (i : Nat) (h : i < n) : (numsV n g)[i]?.getD 0 = numV (g i) := by simp [numsV, h]
theorem split_pos (s : Bs) : 1 ≤ (Lib.split s [32]).length := by
  have := countFrom_splitK 32 s
  show 1 ≤ (Lib.splitK [32] 0 (Lib.count s [32]) s).length
  omega
theorem split_at (s : Bs) (j : Nat) (hs : s.length ≤ 5000000) : (wat (Lib.split s [32]) j).length ≤ 9223372036854775807 := by
  rcases Nat.lt_or_ge j (Lib.split s [32]).length with h | h
  · have := split_each 32 s _ (List.getElem_mem h)
    rw [wat, List.getElem?_eq_getElem h]
    simp only [Option.getD_some]
    omega
  · rw [wat, List.getElem?_eq_none h]
    simp
theorem line_first (f : Frt) (i : Nat) (s : Bs) (hs : s.length ≤ 5000000) (hi : i ≤ 5000001) (hI : f.items.length ≤ 5000001) (hH : f.hosts.length ≤ 5000001) (h0 : i = 0) : FnMem Tryz.prog 78 [.bp 100000 0, .d (int i), .d (str s)] (frB f) (.d (tru (lineC f (decide (i = 0)) (Lib.split s [32])).isSome)) (frB ((lineC f (decide (i = 0)) (Lib.split s [32])).getD f)) := by
  unfold frB
  refine fnMem Tryz.func78 rfl (by kernel_rfl) Tryz.ntmps78 _ rfl (by simp) fun C hc => ?_
  have hS := split_ok s 32 (by omega)
  have hlen := split_len s 32
  have hpos := split_pos s
  have hel := fun j => split_at s j (by omega)
  generalize Lib.split s [32] = L at hS hlen hpos hel  ⊢
  subst h0
  have hn1 := numbers_ok (L.length - 1) (fun i => wat L (1 + i)) (by omega) (fun i => hel _)
  have hv0 := numsV_at (L.length - 1) (fun i => wat L (1 + i)) 0
  have hv1 := numsV_at (L.length - 1) (fun i => wat L (1 + i)) 1
  have hvl := numsV_length (L.length - 1) (fun i => wat L (1 + i))
  have hk2 : L.length = 3 → numsOk (L.length - 1) (fun i => wat L (1 + i)) = (numOk (wat L 1) && numOk (wat L 2)) := fun e => by rw [e]; simp [numsOk, List.range_succ]
  unfold lineC
  rw [decide_eq_true (rfl : (0 : Nat) = 0), if_pos rfl]
  generalize numsV (L.length - 1) (fun i => wat L (1 + i)) = V at hn1 hv0 hv1 hvl
  generalize numsOk (L.length - 1) (fun i => wat L (1 + i)) = k at hn1 hk2
  cases k
  · rw [if_neg (by decide)] at hn1
    rw [if_neg (fun e => by
      have := hk2 e.2.1
      rw [e.2.2.1, e.2.2.2] at this
      cases this)]
    repeat' (first | (first | refine Ya ?_ | refine Yb ?_ | refine Yc ?_ | refine Yd ?_ | refine Ye ?_ | refine Yf ?_ | refine Yg ?_ | refine Yh ?_ | refine Yi ?_ | refine Yj ?_ | refine Yk ?_ | refine Yl ?_ | refine Ym ?_ | refine Yn ?_ | refine Yo ?_ | refine Yp (h := ?_) | refine Yq ?_ | refine Yr ?_ | refine Ys ?_ | refine Zr hc (hk := ?_) | refine Zd hc (hk := ?_) | (refine Zc (ht := fun hb => ?_) (hf := fun hb => ?_) <;> (try simp at hb)) | fail) | (first | refine Zw hc (hf := by first | exact hS | exact hn1) (hk := ?_) | refine Zq hc (hf := by first | exact hS | exact hn1) (hk := ?_) | refine Zo hc (hk := ?_) | refine Zu hc (hk := ?_) | refine Ze hc (hk := ?_) | refine Zn hc (hk := ?_) | fail))
    all_goals try contradiction
    all_goals try (exfalso; omega)
    (refine run_leaveM [100000, 50001, 50002] hc (le_end rfl) (by simp; exact Gives.mk) (by simp; exact Gives.mk) (by first | (simp; done) | (simp; omega)) ?_)
    simp
  · rw [if_pos rfl] at hn1
    by_cases hc2 : wat L 0 = sFrontier ∧ L.length = 3
    · have hk2 := hk2 hc2.2
      have hk3 : numOk (wat L 1) = true ∧ numOk (wat L 2) = true := by simpa using hk2.symm
      rw [if_pos ⟨hc2.1, hc2.2, hk3.1, hk3.2⟩]
      have hv0 := hv0 (by omega)
      have hv1 := hv1 (by omega)
      clear hk2 hk3
      repeat' (first | (first | refine Ya ?_ | refine Yb ?_ | refine Yc ?_ | refine Yd ?_ | refine Ye ?_ | refine Yf ?_ | refine Yg ?_ | refine Yh ?_ | refine Yi ?_ | refine Yj ?_ | refine Yk ?_ | refine Yl ?_ | refine Ym ?_ | refine Yn ?_ | refine Yo ?_ | refine Yp (h := ?_) | refine Yq ?_ | refine Yr ?_ | refine Ys ?_ | refine Zr hc (hk := ?_) | refine Zd hc (hk := ?_) | (refine Zc (ht := fun hb => ?_) (hf := fun hb => ?_) <;> (try simp at hb)) | fail) | (first | refine Zw hc (hf := by first | exact hS | exact hn1) (hk := ?_) | refine Zq hc (hf := by first | exact hS | exact hn1) (hk := ?_) | refine Zo hc (hk := ?_) | refine Zu hc (hk := ?_) | refine Ze hc (hk := ?_) | refine Zn hc (hk := ?_) | fail))
      all_goals try contradiction
      all_goals try (exfalso; omega)
      · exfalso
        rcases hb with h | h
        · exact h hc2.1
        · omega
      clear hb
      (apply run_drawAny 14 hc (by kernel_rfl) rfl; (focus (refine run_anyM 0 hc rfl (by kernel_rfl) rfl (by first | exact .inl rfl | exact .inr rfl) (by simp; exact Gives.mk) (by simp) (by simp; exact Gives.mk) ?_; refine run_anyM 1 hc rfl (by kernel_rfl) rfl (by first | exact .inl rfl | exact .inr rfl) (by simp; exact Gives.mk) (by simp) (by simp; exact Gives.mk) ?_; refine run_anyM 2 hc rfl (by kernel_rfl) rfl (by first | exact .inl rfl | exact .inr rfl) (by simp; exact Gives.mk) (by simp) (by simp; exact Gives.mk) ?_; refine run_anyM 5 hc rfl (by kernel_rfl) rfl (by first | exact .inl rfl | exact .inr rfl) (by simp; exact Gives.mk) (by simp) (by simp; exact Gives.mk) ?_; refine anyW_all [3, 6] (by kernel_rfl) rfl ?_; refine ⟨?_, ?_⟩; (focus (refine run_stepW hc rfl (by simp; exact Ends.go) (by first | exact True.intro | omega | (simp; done) | (simp; omega) | (simp at *; omega)) ?_; refine anyW_all [4, 6] (by kernel_rfl) rfl ?_; refine ⟨?_, ?_⟩; (focus (refine run_stepW hc rfl (by simp; exact Ends.go) (by first | exact True.intro | omega | (simp; done) | (simp; omega) | (simp at *; omega)) ?_; refine anyW_all [6] (by kernel_rfl) rfl ?_; (focus (refine run_stepW hc rfl (by simp; exact Ends.go) (by first | exact True.intro | omega | (simp; done) | (simp; omega) | (simp at *; omega)) ?_; refine anyW_all [7] (by kernel_rfl) rfl ?_; (focus (refine run_stepW hc rfl (by simp; exact Ends.go) (by first | exact True.intro | omega | (simp; done) | (simp; omega) | (simp at *; omega)) ?_; refine run_anyP 8 hc rfl (by kernel_rfl) rfl (by simp; exact Gives.mk) (by first | exact True.intro | omega | (simp; done) | (simp; omega) | (simp at *; omega)) (by simp) (by simp) (by simp; exact Gives.mk) ?_; refine run_anyP 9 hc rfl (by kernel_rfl) rfl (by simp; exact Gives.mk) (by first | exact True.intro | omega | (simp; done) | (simp; omega) | (simp at *; omega)) (by simp) (by simp) (by simp; exact Gives.mk) ?_; refine anyW_all [10] (by kernel_rfl) rfl ?_; (focus (refine run_stepW hc rfl (by simp; exact Ends.go) (by first | exact True.intro | omega | (simp; done) | (simp; omega) | (simp at *; omega)) ?_; refine run_anyP 11 hc rfl (by kernel_rfl) rfl (by simp; exact Gives.mk) (by first | exact True.intro | omega | (simp; done) | (simp; omega) | (simp at *; omega)) (by simp) (by simp) (by simp; exact Gives.mk) ?_; refine run_anyP 12 hc rfl (by kernel_rfl) rfl (by simp; exact Gives.mk) (by first | exact True.intro | omega | (simp; done) | (simp; omega) | (simp at *; omega)) (by simp) (by simp) (by simp; exact Gives.mk) ?_; refine anyW_all [13] (by kernel_rfl) rfl ?_; (focus (refine run_stepW hc rfl (by simp; exact Ends.go) (by first | exact True.intro | omega | (simp; done) | (simp; omega) | (simp at *; omega)) ?_; refine anyW_done (by kernel_rfl) ?_; exact run_keep [0, 6] [100000, 50001, 50002] (by simp; try exact Gives.mk) (by simp; try exact Gives.mk))))))))))); (focus (refine run_stepW hc rfl (by simp; exact Ends.go) (by first | exact True.intro | omega | (simp; done) | (simp; omega) | (simp at *; omega)) ?_; refine anyW_all [4, 7] (by kernel_rfl) rfl ?_; refine ⟨?_, ?_⟩; (focus (refine run_stepW hc rfl (by simp; exact Ends.go) (by first | exact True.intro | omega | (simp; done) | (simp; omega) | (simp at *; omega)) ?_; refine anyW_all [7] (by kernel_rfl) rfl ?_; (focus (refine run_stepW hc rfl (by simp; exact Ends.go) (by first | exact True.intro | omega | (simp; done) | (simp; omega) | (simp at *; omega)) ?_; refine run_anyP 8 hc rfl (by kernel_rfl) rfl (by simp; exact Gives.mk) (by first | exact True.intro | omega | (simp; done) | (simp; omega) | (simp at *; omega)) (by simp) (by simp) (by simp; exact Gives.mk) ?_; refine run_anyP 9 hc rfl (by kernel_rfl) rfl (by simp; exact Gives.mk) (by first | exact True.intro | omega | (simp; done) | (simp; omega) | (simp at *; omega)) (by simp) (by simp) (by simp; exact Gives.mk) ?_; refine anyW_all [10] (by kernel_rfl) rfl ?_; (focus (refine run_stepW hc rfl (by simp; exact Ends.go) (by first | exact True.intro | omega | (simp; done) | (simp; omega) | (simp at *; omega)) ?_; refine run_anyP 11 hc rfl (by kernel_rfl) rfl (by simp; exact Gives.mk) (by first | exact True.intro | omega | (simp; done) | (simp; omega) | (simp at *; omega)) (by simp) (by simp) (by simp; exact Gives.mk) ?_; refine run_anyP 12 hc rfl (by kernel_rfl) rfl (by simp; exact Gives.mk) (by first | exact True.intro | omega | (simp; done) | (simp; omega) | (simp at *; omega)) (by simp) (by simp) (by simp; exact Gives.mk) ?_; refine anyW_all [13] (by kernel_rfl) rfl ?_; (focus (refine run_stepW hc rfl (by simp; exact Ends.go) (by first | exact True.intro | omega | (simp; done) | (simp; omega) | (simp at *; omega)) ?_; refine anyW_done (by kernel_rfl) ?_; exact run_back [0, 6] [100000, 50001, 50002] (by simp; exact Gives.mk) (by simp; exact Gives.mk) (by simp))))))))); (focus (refine run_stepW hc rfl (by simp; exact Ends.go) (by first | exact True.intro | omega | (simp; done) | (simp; omega) | (simp at *; omega)) ?_; refine anyW_all [4] (by kernel_rfl) rfl ?_; (focus (refine run_stepW hc rfl (by simp; exact Ends.go) (by first | exact True.intro | omega | (simp; done) | (simp; omega) | (simp at *; omega)) ?_; refine run_anyP 8 hc rfl (by kernel_rfl) rfl (by simp; exact Gives.mk) (by first | exact True.intro | omega | (simp; done) | (simp; omega) | (simp at *; omega)) (by simp) (by simp) (by simp; exact Gives.mk) ?_; refine run_anyP 9 hc rfl (by kernel_rfl) rfl (by simp; exact Gives.mk) (by first | exact True.intro | omega | (simp; done) | (simp; omega) | (simp at *; omega)) (by simp) (by simp) (by simp; exact Gives.mk) ?_; refine anyW_all [10] (by kernel_rfl) rfl ?_; (focus (refine run_stepW hc rfl (by simp; exact Ends.go) (by first | exact True.intro | omega | (simp; done) | (simp; omega) | (simp at *; omega)) ?_; refine run_anyP 11 hc rfl (by kernel_rfl) rfl (by simp; exact Gives.mk) (by first | exact True.intro | omega | (simp; done) | (simp; omega) | (simp at *; omega)) (by simp) (by simp) (by simp; exact Gives.mk) ?_; refine run_anyP 12 hc rfl (by kernel_rfl) rfl (by simp; exact Gives.mk) (by first | exact True.intro | omega | (simp; done) | (simp; omega) | (simp at *; omega)) (by simp) (by simp) (by simp; exact Gives.mk) ?_; refine anyW_all [13] (by kernel_rfl) rfl ?_; (focus (refine run_stepW hc rfl (by simp; exact Ends.go) (by first | exact True.intro | omega | (simp; done) | (simp; omega) | (simp at *; omega)) ?_; refine anyW_done (by kernel_rfl) ?_; exact run_back [0, 6] [100000, 50001, 50002] (by simp; exact Gives.mk) (by simp; exact Gives.mk) (by simp))))))))))))); (focus (refine run_stepW hc rfl (by simp; exact Ends.go) (by first | exact True.intro | omega | (simp; done) | (simp; omega) | (simp at *; omega)) ?_; refine anyW_all [3, 7] (by kernel_rfl) rfl ?_; refine ⟨?_, ?_⟩; (focus (refine run_stepW hc rfl (by simp; exact Ends.go) (by first | exact True.intro | omega | (simp; done) | (simp; omega) | (simp at *; omega)) ?_; refine anyW_all [4, 7] (by kernel_rfl) rfl ?_; refine ⟨?_, ?_⟩; (focus (refine run_stepW hc rfl (by simp; exact Ends.go) (by first | exact True.intro | omega | (simp; done) | (simp; omega) | (simp at *; omega)) ?_; refine anyW_all [7] (by kernel_rfl) rfl ?_; (focus (refine run_stepW hc rfl (by simp; exact Ends.go) (by first | exact True.intro | omega | (simp; done) | (simp; omega) | (simp at *; omega)) ?_; refine run_anyP 8 hc rfl (by kernel_rfl) rfl (by simp; exact Gives.mk) (by first | exact True.intro | omega | (simp; done) | (simp; omega) | (simp at *; omega)) (by simp) (by simp) (by simp; exact Gives.mk) ?_; refine run_anyP 9 hc rfl (by kernel_rfl) rfl (by simp; exact Gives.mk) (by first | exact True.intro | omega | (simp; done) | (simp; omega) | (simp at *; omega)) (by simp) (by simp) (by simp; exact Gives.mk) ?_; refine anyW_all [10] (by kernel_rfl) rfl ?_; (focus (refine run_stepW hc rfl (by simp; exact Ends.go) (by first | exact True.intro | omega | (simp; done) | (simp; omega) | (simp at *; omega)) ?_; refine run_anyP 11 hc rfl (by kernel_rfl) rfl (by simp; exact Gives.mk) (by first | exact True.intro | omega | (simp; done) | (simp; omega) | (simp at *; omega)) (by simp) (by simp) (by simp; exact Gives.mk) ?_; refine run_anyP 12 hc rfl (by kernel_rfl) rfl (by simp; exact Gives.mk) (by first | exact True.intro | omega | (simp; done) | (simp; omega) | (simp at *; omega)) (by simp) (by simp) (by simp; exact Gives.mk) ?_; refine anyW_all [13] (by kernel_rfl) rfl ?_; (focus (refine run_stepW hc rfl (by simp; exact Ends.go) (by first | exact True.intro | omega | (simp; done) | (simp; omega) | (simp at *; omega)) ?_; refine anyW_done (by kernel_rfl) ?_; exact run_back [0, 6] [100000, 50001, 50002] (by simp; exact Gives.mk) (by simp; exact Gives.mk) (by simp))))))))); (focus (refine run_stepW hc rfl (by simp; exact Ends.go) (by first | exact True.intro | omega | (simp; done) | (simp; omega) | (simp at *; omega)) ?_; refine anyW_all [4] (by kernel_rfl) rfl ?_; (focus (refine run_stepW hc rfl (by simp; exact Ends.go) (by first | exact True.intro | omega | (simp; done) | (simp; omega) | (simp at *; omega)) ?_; refine run_anyP 8 hc rfl (by kernel_rfl) rfl (by simp; exact Gives.mk) (by first | exact True.intro | omega | (simp; done) | (simp; omega) | (simp at *; omega)) (by simp) (by simp) (by simp; exact Gives.mk) ?_; refine run_anyP 9 hc rfl (by kernel_rfl) rfl (by simp; exact Gives.mk) (by first | exact True.intro | omega | (simp; done) | (simp; omega) | (simp at *; omega)) (by simp) (by simp) (by simp; exact Gives.mk) ?_; refine anyW_all [10] (by kernel_rfl) rfl ?_; (focus (refine run_stepW hc rfl (by simp; exact Ends.go) (by first | exact True.intro | omega | (simp; done) | (simp; omega) | (simp at *; omega)) ?_; refine run_anyP 11 hc rfl (by kernel_rfl) rfl (by simp; exact Gives.mk) (by first | exact True.intro | omega | (simp; done) | (simp; omega) | (simp at *; omega)) (by simp) (by simp) (by simp; exact Gives.mk) ?_; refine run_anyP 12 hc rfl (by kernel_rfl) rfl (by simp; exact Gives.mk) (by first | exact True.intro | omega | (simp; done) | (simp; omega) | (simp at *; omega)) (by simp) (by simp) (by simp; exact Gives.mk) ?_; refine anyW_all [13] (by kernel_rfl) rfl ?_; (focus (refine run_stepW hc rfl (by simp; exact Ends.go) (by first | exact True.intro | omega | (simp; done) | (simp; omega) | (simp at *; omega)) ?_; refine anyW_done (by kernel_rfl) ?_; exact run_back [0, 6] [100000, 50001, 50002] (by simp; exact Gives.mk) (by simp; exact Gives.mk) (by simp))))))))))); (focus (refine run_stepW hc rfl (by simp; exact Ends.go) (by first | exact True.intro | omega | (simp; done) | (simp; omega) | (simp at *; omega)) ?_; refine anyW_all [3] (by kernel_rfl) rfl ?_; (focus (refine run_stepW hc rfl (by simp; exact Ends.go) (by first | exact True.intro | omega | (simp; done) | (simp; omega) | (simp at *; omega)) ?_; refine anyW_all [4] (by kernel_rfl) rfl ?_; (focus (refine run_stepW hc rfl (by simp; exact Ends.go) (by first | exact True.intro | omega | (simp; done) | (simp; omega) | (simp at *; omega)) ?_; refine run_anyP 8 hc rfl (by kernel_rfl) rfl (by simp; exact Gives.mk) (by first | exact True.intro | omega | (simp; done) | (simp; omega) | (simp at *; omega)) (by simp) (by simp) (by simp; exact Gives.mk) ?_; refine run_anyP 9 hc rfl (by kernel_rfl) rfl (by simp; exact Gives.mk) (by first | exact True.intro | omega | (simp; done) | (simp; omega) | (simp at *; omega)) (by simp) (by simp) (by simp; exact Gives.mk) ?_; refine anyW_all [10] (by kernel_rfl) rfl ?_; (focus (refine run_stepW hc rfl (by simp; exact Ends.go) (by first | exact True.intro | omega | (simp; done) | (simp; omega) | (simp at *; omega)) ?_; refine run_anyP 11 hc rfl (by kernel_rfl) rfl (by simp; exact Gives.mk) (by first | exact True.intro | omega | (simp; done) | (simp; omega) | (simp at *; omega)) (by simp) (by simp) (by simp; exact Gives.mk) ?_; refine run_anyP 12 hc rfl (by kernel_rfl) rfl (by simp; exact Gives.mk) (by first | exact True.intro | omega | (simp; done) | (simp; omega) | (simp at *; omega)) (by simp) (by simp) (by simp; exact Gives.mk) ?_; refine anyW_all [13] (by kernel_rfl) rfl ?_; (focus (refine run_stepW hc rfl (by simp; exact Ends.go) (by first | exact True.intro | omega | (simp; done) | (simp; omega) | (simp at *; omega)) ?_; refine anyW_done (by kernel_rfl) ?_; exact run_back [0, 6] [100000, 50001, 50002] (by simp; exact Gives.mk) (by simp; exact Gives.mk) (by simp))))))))))))))))
      repeat' (first | (first | refine Ya ?_ | refine Yb ?_ | refine Yc ?_ | refine Yd ?_ | refine Ye ?_ | refine Yf ?_ | refine Yg ?_ | refine Yh ?_ | refine Yi ?_ | refine Yj ?_ | refine Yk ?_ | refine Yl ?_ | refine Ym ?_ | refine Yn ?_ | refine Yo ?_ | refine Yp (h := ?_) | refine Yq ?_ | refine Yr ?_ | refine Ys ?_ | refine Zr hc (hk := ?_) | refine Zd hc (hk := ?_) | (refine Zc (ht := fun hb => ?_) (hf := fun hb => ?_) <;> (try simp at hb)) | fail) | (first | refine Zo hc (hk := ?_) | refine Zu hc (hk := ?_) | refine Ze hc (hk := ?_) | refine Zn hc (hk := ?_) | fail))
      (refine run_leaveM [100000, 50001, 50002] hc (le_end rfl) (by simp; exact Gives.mk) (by simp; exact Gives.mk) (by first | (simp; done) | (simp; omega)) ?_)
      simp [hv0, hv1]
    · rw [if_neg (fun e => hc2 ⟨e.1, e.2.1⟩)]
      repeat' (first | (first | refine Ya ?_ | refine Yb ?_ | refine Yc ?_ | refine Yd ?_ | refine Ye ?_ | refine Yf ?_ | refine Yg ?_ | refine Yh ?_ | refine Yi ?_ | refine Yj ?_ | refine Yk ?_ | refine Yl ?_ | refine Ym ?_ | refine Yn ?_ | refine Yo ?_ | refine Yp (h := ?_) | refine Yq ?_ | refine Yr ?_ | refine Ys ?_ | refine Zr hc (hk := ?_) | refine Zd hc (hk := ?_) | (refine Zc (ht := fun hb => ?_) (hf := fun hb => ?_) <;> (try simp at hb)) | fail) | (first | refine Zw hc (hf := by first | exact hS | exact hn1) (hk := ?_) | refine Zq hc (hf := by first | exact hS | exact hn1) (hk := ?_) | refine Zo hc (hk := ?_) | refine Zu hc (hk := ?_) | refine Ze hc (hk := ?_) | refine Zn hc (hk := ?_) | fail))
      all_goals try contradiction
      all_goals try (exfalso; omega)
      · (refine run_leaveM [100000, 50001, 50002] hc (le_end rfl) (by simp; exact Gives.mk) (by simp; exact Gives.mk) (by first | (simp; done) | (simp; omega)) ?_)
        simp
      · exact absurd ⟨hb.1, by omega⟩ hc2
end Go.Proofs.YtnainpghpjelcaaGreatDoor
