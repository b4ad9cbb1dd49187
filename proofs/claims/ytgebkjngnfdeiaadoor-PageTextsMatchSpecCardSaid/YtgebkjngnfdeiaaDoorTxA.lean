/-
  PAGE: sets of images, and those of the reference. (WITH run_drawN.)
-/
import Derived.Test.YtgebkjngnfdeiaaDoorRfTok
import Derived.Test.YtgebkjngnfdeiaaDoorLibS
set_option linter.unusedSimpArgs false
set_option linter.unusedVariables false
namespace Go.Proofs.YtgebkjngnfdeiaaDoor
open Go.Lw
set_option maxRecDepth 100000
set_option maxHeartbeats 1000000

def nBl (c : UInt8) : Bool := !isBl c
/-- As far as bytes are of a kind, and no further than to a place. -/
def bsk (p : UInt8 → Bool) (l : Bs) (i n : Nat) : Nat := min (skip p l i) n
theorem bsk_step {p : UInt8 → Bool} {l : Bs} {i n : Nat} (h : i < n) (hn : n ≤ l.length) : bsk p l i n = if p (l[i]?.getD 0) = true then bsk p l (i + 1) n else i := by
  unfold bsk
  rw [skip_step p l i (by omega)]
  split
  · rfl
  · omega
theorem bsk_end {p : UInt8 → Bool} {l : Bs} {i n : Nat} (h : n ≤ i) : bsk p l i n = n := by
  unfold bsk
  have := skip_ge p l i
  omega
theorem bsk_ge {p : UInt8 → Bool} {l : Bs} {i n : Nat} (h : i ≤ n) : i ≤ bsk p l i n ∧ bsk p l i n ≤ n := by
  unfold bsk
  have := skip_ge p l i
  omega
def sp (l : Bs) (a n : Nat) : List (Nat × Nat) := if bsk isBl l a n < bsk nBl l (bsk isBl l a n) n then [(bsk isBl l a n, bsk nBl l (bsk isBl l a n) n)] else []
def img (l : Bs) (L : List Bs) : Nat → List (Nat × Nat)
  | 0 => []
  | k + 1 => img l L k ++ sp l (offs L k) (offs L k + (L[k]?.getD []).length)
theorem sp_len (l : Bs) (a n : Nat) : (sp l a n).length ≤ 1 := by unfold sp; split <;> simp
theorem img_len (l : Bs) (L : List Bs) (k : Nat) : (img l L k).length ≤ k := by
  induction k with
  | zero => simp [img]
  | succ k ih => have := sp_len l (offs L k) (offs L k + (L[k]?.getD []).length); simp [img]; omega
abbrev encS (x : Nat × Nat) : List D := [int x.1, int x.2]
abbrev zS : List D := [.lit (.int .i64 0), .lit (.int .i64 0)]
abbrev spSl (m : List (Nat × Nat)) : D := .sl m.length fun i => encS (m[i]?.getD (0, 0))
@[simp] theorem getD_encS (o : Option (Nat × Nat)) : (Option.map encS o).getD [.lit (.int .i64 0), .lit (.int .i64 0)] = encS (o.getD (0, 0)) := by cases o <;> rfl
theorem images_ok (l : Bs) (hm : l.length ≤ 200000) : FnOk Tryd.prog 18 [str l] (spSl (img l (Lib.split l [44]) (Lib.split l [44]).length)) := by
  have hsp := split_ok l 44 (by omega)
  have hof := split_offs l 44
  have hsl := split_len l 44
  generalize Lib.split l [44] = L at hsp hof hsl ⊢
  refine fnOk Tryd.func18 rfl (by kernel_rfl) Tryd.ntmps18 _ rfl (by simp) fun C hc => ?_
  repeat' (first | (first | refine ewp_seq ?_ | refine run_region hc (by simp; exact Ends.go) (by first | exact True.intro | omega | (simp; done) | (simp; omega) | (simp at *; omega)) ?_ | refine run_draw hc (by kernel_rfl) (by kernel_rfl) (by simp; exact Ends.go) (by first | exact True.intro | omega | (simp; done) | (simp; omega) | (simp at *; omega)) ?_ | refine ewp_scope ?_ | refine scopeQ_normal ?_ | refine scopeQ_ret ?_ | refine scopeQ_exit ?_ | refine ewp_skip ?_ | refine ewp_block ?_ | refine ewp_exit ?_ | refine ewp_label ?_ | refine thenQ_normal ?_ | refine thenQ_ret ?_ | refine thenQ_exit ?_ | refine blockQ_normal ?_ | refine blockQ_ret ?_ | refine blockQ_here ?_ | refine blockQ_there (by decide) ?_ | refine ewp_ret ?_ | refine opsW_nil ?_ | refine quietW_nil ?_ | (refine run_cond (by simp; exact Gives.mk) (fun hb => ?_) (fun hb => ?_) <;> (try simp at hb)) | fail) | (first | refine run_callW hc (by simp; exact Gives.mk) (by simp; exact Gives.mk) (by simp; exact Gives.mk) (by simp; exact Gives.mk) (by simp; exact Gives.mk) (fun _ => by first | exact hsp) (by simp) (by simp) ?_ | refine run_callQ hc (by simp; exact Gives.mk) (by simp; exact Gives.mk) (by simp; exact Gives.mk) (by simp; exact Gives.mk) (by simp; exact Gives.mk) (fun _ => by first | exact hsp) (by simp) (by simp) ?_ | refine run_ops hc (by simp; first | exact Ends.go | exact Ends.halt) (by decide) (by first | exact True.intro | omega | (simp; done) | (simp; omega) | (simp at *; omega)) ?_ | refine run_quiet hc (by simp; first | exact Ends.go | exact Ends.halt) (by decide) (by first | exact True.intro | omega | (simp; done) | (simp; omega) | (simp at *; omega)) ?_ | refine run_regionW hc (by simp; exact Ends.halt) (by first | exact True.intro | omega | (simp; done) | (simp; omega) | (simp at *; omega)) ?_ | refine run_drawN hc (by kernel_rfl) (by decide) (by kernel_rfl) (by simp; exact Ends.halt) (by first | exact True.intro | omega | (simp; done) | (simp; omega) | (simp at *; omega)) ?_ | fail))
  refine ewp_loop (fun x : Nat × List (Nat × Nat) => ⟨[(0, .d (str l)), (3, .os 40000 x.2.length), (4, .d (int (offs L x.1))), (11, .d (strSl L)), (12, .d (int L.length)), (13, .d (int x.1))], [(40000, .own 30 2 (true, zS) (x.2.map encS))]⟩) (fun x => x.1 ≤ L.length ∧ x.2 = img l L x.1) (fun x => L.length - x.1) (0, []) (by simp [img]) (run_keepB [(3, none, 40000, 30, zS)] [0, 3, 4, 11, 12, 13] [40000] (by simp; exact Gives.mk) (by simp; exact Gives.mk) (by simp; exact Gives.mk)) ?_
  rintro ⟨k, m⟩ ⟨h1, h2⟩
  simp only at h1 h2 ⊢
  have hml : m.length ≤ k := by rw [h2]; exact img_len l L k
  have hofk := hof k
  have hnx := offs_next L k
  have him : img l L (k + 1) = m ++ sp l (offs L k) (offs L k + (L[k]?.getD []).length) := by rw [h2]; rfl
  by_cases hk : k < L.length
  rotate_left
  · have hke : k = L.length := by omega
    repeat' (first | (first | refine ewp_seq ?_ | refine run_region hc (by simp; exact Ends.go) (by first | exact True.intro | omega | (simp; done) | (simp; omega) | (simp at *; omega)) ?_ | refine run_draw hc (by kernel_rfl) (by kernel_rfl) (by simp; exact Ends.go) (by first | exact True.intro | omega | (simp; done) | (simp; omega) | (simp at *; omega)) ?_ | refine ewp_scope ?_ | refine scopeQ_normal ?_ | refine scopeQ_ret ?_ | refine scopeQ_exit ?_ | refine ewp_skip ?_ | refine ewp_block ?_ | refine ewp_exit ?_ | refine ewp_label ?_ | refine thenQ_normal ?_ | refine thenQ_ret ?_ | refine thenQ_exit ?_ | refine blockQ_normal ?_ | refine blockQ_ret ?_ | refine blockQ_here ?_ | refine blockQ_there (by decide) ?_ | refine ewp_ret ?_ | refine opsW_nil ?_ | refine quietW_nil ?_ | (refine run_cond (by simp; exact Gives.mk) (fun hb => ?_) (fun hb => ?_) <;> (try simp at hb)) | fail) | (first | refine run_callW hc (by simp; exact Gives.mk) (by simp; exact Gives.mk) (by simp; exact Gives.mk) (by simp; exact Gives.mk) (by simp; exact Gives.mk) (fun _ => by first | exact trivial) (by simp) (by simp) ?_ | refine run_callQ hc (by simp; exact Gives.mk) (by simp; exact Gives.mk) (by simp; exact Gives.mk) (by simp; exact Gives.mk) (by simp; exact Gives.mk) (fun _ => by first | exact trivial) (by simp) (by simp) ?_ | refine run_ops hc (by simp; first | exact Ends.go | exact Ends.halt) (by decide) (by first | exact True.intro | omega | (simp; done) | (simp; omega) | (simp at *; omega)) ?_ | refine run_quiet hc (by simp; first | exact Ends.go | exact Ends.halt) (by decide) (by first | exact True.intro | omega | (simp; done) | (simp; omega) | (simp at *; omega)) ?_ | refine run_regionW hc (by simp; exact Ends.halt) (by first | exact True.intro | omega | (simp; done) | (simp; omega) | (simp at *; omega)) ?_ | refine run_drawN hc (by kernel_rfl) (by decide) (by kernel_rfl) (by simp; exact Ends.halt) (by first | exact True.intro | omega | (simp; done) | (simp; omega) | (simp at *; omega)) ?_ | fail))
    · exfalso; omega
    · rw [← hke, ← h2]
      (refine run_leave hc (by simp; exact Gives.mk) ?_)
      simp
  replace hofk := hofk hk
  replace hnx := hnx hk
  generalize offs L k = a at hofk hnx him ⊢
  repeat' (first | (first | refine ewp_seq ?_ | refine run_region hc (by simp; exact Ends.go) (by first | exact True.intro | omega | (simp; done) | (simp; omega) | (simp at *; omega)) ?_ | refine run_draw hc (by kernel_rfl) (by kernel_rfl) (by simp; exact Ends.go) (by first | exact True.intro | omega | (simp; done) | (simp; omega) | (simp at *; omega)) ?_ | refine ewp_scope ?_ | refine scopeQ_normal ?_ | refine scopeQ_ret ?_ | refine scopeQ_exit ?_ | refine ewp_skip ?_ | refine ewp_block ?_ | refine ewp_exit ?_ | refine ewp_label ?_ | refine thenQ_normal ?_ | refine thenQ_ret ?_ | refine thenQ_exit ?_ | refine blockQ_normal ?_ | refine blockQ_ret ?_ | refine blockQ_here ?_ | refine blockQ_there (by decide) ?_ | refine ewp_ret ?_ | refine opsW_nil ?_ | refine quietW_nil ?_ | (refine run_cond (by simp; exact Gives.mk) (fun hb => ?_) (fun hb => ?_) <;> (try simp at hb)) | fail) | (first | refine run_callW hc (by simp; exact Gives.mk) (by simp; exact Gives.mk) (by simp; exact Gives.mk) (by simp; exact Gives.mk) (by simp; exact Gives.mk) (fun _ => by first | exact trivial) (by simp) (by simp) ?_ | refine run_callQ hc (by simp; exact Gives.mk) (by simp; exact Gives.mk) (by simp; exact Gives.mk) (by simp; exact Gives.mk) (by simp; exact Gives.mk) (fun _ => by first | exact trivial) (by simp) (by simp) ?_ | refine run_ops hc (by simp; first | exact Ends.go | exact Ends.halt) (by decide) (by first | exact True.intro | omega | (simp; done) | (simp; omega) | (simp at *; omega)) ?_ | refine run_quiet hc (by simp; first | exact Ends.go | exact Ends.halt) (by decide) (by first | exact True.intro | omega | (simp; done) | (simp; omega) | (simp at *; omega)) ?_ | refine run_regionW hc (by simp; exact Ends.halt) (by first | exact True.intro | omega | (simp; done) | (simp; omega) | (simp at *; omega)) ?_ | refine run_drawN hc (by kernel_rfl) (by decide) (by kernel_rfl) (by simp; exact Ends.halt) (by first | exact True.intro | omega | (simp; done) | (simp; omega) | (simp at *; omega)) ?_ | fail))
  · generalize L[k]?.getD [] = x at hofk hnx him ⊢
    repeat' (first | (first | refine ewp_seq ?_ | refine run_region hc (by simp; exact Ends.go) (by first | exact True.intro | omega | (simp; done) | (simp; omega) | (simp at *; omega)) ?_ | refine run_draw hc (by kernel_rfl) (by kernel_rfl) (by simp; exact Ends.go) (by first | exact True.intro | omega | (simp; done) | (simp; omega) | (simp at *; omega)) ?_ | refine ewp_scope ?_ | refine scopeQ_normal ?_ | refine scopeQ_ret ?_ | refine scopeQ_exit ?_ | refine ewp_skip ?_ | refine ewp_block ?_ | refine ewp_exit ?_ | refine ewp_label ?_ | refine thenQ_normal ?_ | refine thenQ_ret ?_ | refine thenQ_exit ?_ | refine blockQ_normal ?_ | refine blockQ_ret ?_ | refine blockQ_here ?_ | refine blockQ_there (by decide) ?_ | refine ewp_ret ?_ | refine opsW_nil ?_ | refine quietW_nil ?_ | (refine run_cond (by simp; exact Gives.mk) (fun hb => ?_) (fun hb => ?_) <;> (try simp at hb)) | fail) | (first | refine run_callW hc (by simp; exact Gives.mk) (by simp; exact Gives.mk) (by simp; exact Gives.mk) (by simp; exact Gives.mk) (by simp; exact Gives.mk) (fun _ => by first | exact trivial) (by simp) (by simp) ?_ | refine run_callQ hc (by simp; exact Gives.mk) (by simp; exact Gives.mk) (by simp; exact Gives.mk) (by simp; exact Gives.mk) (by simp; exact Gives.mk) (fun _ => by first | exact trivial) (by simp) (by simp) ?_ | refine run_ops hc (by simp; first | exact Ends.go | exact Ends.halt) (by decide) (by first | exact True.intro | omega | (simp; done) | (simp; omega) | (simp at *; omega)) ?_ | refine run_quiet hc (by simp; first | exact Ends.go | exact Ends.halt) (by decide) (by first | exact True.intro | omega | (simp; done) | (simp; omega) | (simp at *; omega)) ?_ | refine run_regionW hc (by simp; exact Ends.halt) (by first | exact True.intro | omega | (simp; done) | (simp; omega) | (simp at *; omega)) ?_ | refine run_drawN hc (by kernel_rfl) (by decide) (by kernel_rfl) (by simp; exact Ends.halt) (by first | exact True.intro | omega | (simp; done) | (simp; omega) | (simp at *; omega)) ?_ | fail))
    refine ewp_loop (fun j : Nat => ⟨[(0, .d (str l)), (3, .os 40000 m.length), (7, .d (int j)), (8, .d (int (a + x.length))), (11, .d (strSl L)), (12, .d (int L.length)), (13, .d (int k))], [(40000, .own 30 2 (true, zS) (m.map encS))]⟩) (fun j => a ≤ j ∧ j ≤ a + x.length ∧ bsk isBl l j (a + x.length) = bsk isBl l a (a + x.length)) (fun j => a + x.length - j) a (by simp) (run_keep [0, 3, 7, 8, 11, 12, 13] [40000] (by simp; exact Gives.mk) (by simp; exact Gives.mk)) ?_
    rintro j ⟨j1, j2, j3⟩
    have js := fun h => bsk_step (p := isBl) (l := l) (i := j) h hofk
    have je := fun h => bsk_end (p := isBl) (l := l) (i := j) (n := a + x.length) h
    repeat' (first | (first | refine ewp_seq ?_ | refine run_region hc (by simp; exact Ends.go) (by first | exact True.intro | omega | (simp; done) | (simp; omega) | (simp at *; omega)) ?_ | refine run_draw hc (by kernel_rfl) (by kernel_rfl) (by simp; exact Ends.go) (by first | exact True.intro | omega | (simp; done) | (simp; omega) | (simp at *; omega)) ?_ | refine ewp_scope ?_ | refine scopeQ_normal ?_ | refine scopeQ_ret ?_ | refine scopeQ_exit ?_ | refine ewp_skip ?_ | refine ewp_block ?_ | refine ewp_exit ?_ | refine ewp_label ?_ | refine thenQ_normal ?_ | refine thenQ_ret ?_ | refine thenQ_exit ?_ | refine blockQ_normal ?_ | refine blockQ_ret ?_ | refine blockQ_here ?_ | refine blockQ_there (by decide) ?_ | refine ewp_ret ?_ | refine opsW_nil ?_ | refine quietW_nil ?_ | (refine run_cond (by simp; exact Gives.mk) (fun hb => ?_) (fun hb => ?_) <;> (try simp at hb)) | fail) | (first | refine run_callW hc (by simp; exact Gives.mk) (by simp; exact Gives.mk) (by simp; exact Gives.mk) (by simp; exact Gives.mk) (by simp; exact Gives.mk) (fun _ => by first | exact blank_ok _) (by simp) (by simp) ?_ | refine run_callQ hc (by simp; exact Gives.mk) (by simp; exact Gives.mk) (by simp; exact Gives.mk) (by simp; exact Gives.mk) (by simp; exact Gives.mk) (fun _ => by first | exact blank_ok _) (by simp) (by simp) ?_ | refine run_ops hc (by simp; first | exact Ends.go | exact Ends.halt) (by decide) (by first | exact True.intro | omega | (simp; done) | (simp; omega) | (simp at *; omega)) ?_ | refine run_quiet hc (by simp; first | exact Ends.go | exact Ends.halt) (by decide) (by first | exact True.intro | omega | (simp; done) | (simp; omega) | (simp at *; omega)) ?_ | refine run_regionW hc (by simp; exact Ends.halt) (by first | exact True.intro | omega | (simp; done) | (simp; omega) | (simp at *; omega)) ?_ | refine run_drawN hc (by kernel_rfl) (by decide) (by kernel_rfl) (by simp; exact Ends.halt) (by first | exact True.intro | omega | (simp; done) | (simp; omega) | (simp at *; omega)) ?_ | fail))
    · exact ⟨j + 1, ⟨by omega, by omega, by rw [← j3, js (by omega), if_pos hb.2]⟩, by omega, run_back [0, 3, 7, 8, 11, 12, 13] [40000] (by simp; exact Gives.mk) (by simp; exact Gives.mk) (by simp)⟩
    · have hf : bsk isBl l a (a + x.length) = j := by
        rw [← j3]
        by_cases h : j < a + x.length
        · rw [js h, if_neg (by rw [hb (by omega)]; decide)]
        · rw [je (by omega)]; omega
      unfold sp at him
      rw [hf] at him
      refine ewp_loop (fun i : Nat => ⟨[(0, .d (str l)), (3, .os 40000 m.length), (7, .d (int j)), (8, .d (int (a + x.length))), (9, .d (int i)), (11, .d (strSl L)), (12, .d (int L.length)), (13, .d (int k))], [(40000, .own 30 2 (true, zS) (m.map encS))]⟩) (fun i => j ≤ i ∧ i ≤ a + x.length ∧ bsk nBl l i (a + x.length) = bsk nBl l j (a + x.length)) (fun i => a + x.length - i) j (by simp; omega) (run_keep [0, 3, 7, 8, 9, 11, 12, 13] [40000] (by simp; exact Gives.mk) (by simp; exact Gives.mk)) ?_
      rintro i ⟨i1, i2, i3⟩
      have is := fun h => bsk_step (p := nBl) (l := l) (i := i) h hofk
      have ie := fun h => bsk_end (p := nBl) (l := l) (i := i) (n := a + x.length) h
      have hnb : nBl (l[i]?.getD 0) = !isBl (l[i]?.getD 0) := rfl
      repeat' (first | (first | refine ewp_seq ?_ | refine run_region hc (by simp; exact Ends.go) (by first | exact True.intro | omega | (simp; done) | (simp; omega) | (simp at *; omega)) ?_ | refine run_draw hc (by kernel_rfl) (by kernel_rfl) (by simp; exact Ends.go) (by first | exact True.intro | omega | (simp; done) | (simp; omega) | (simp at *; omega)) ?_ | refine ewp_scope ?_ | refine scopeQ_normal ?_ | refine scopeQ_ret ?_ | refine scopeQ_exit ?_ | refine ewp_skip ?_ | refine ewp_block ?_ | refine ewp_exit ?_ | refine ewp_label ?_ | refine thenQ_normal ?_ | refine thenQ_ret ?_ | refine thenQ_exit ?_ | refine blockQ_normal ?_ | refine blockQ_ret ?_ | refine blockQ_here ?_ | refine blockQ_there (by decide) ?_ | refine ewp_ret ?_ | refine opsW_nil ?_ | refine quietW_nil ?_ | (refine run_cond (by simp; exact Gives.mk) (fun hb => ?_) (fun hb => ?_) <;> (try simp at hb)) | fail) | (first | refine run_callW hc (by simp; exact Gives.mk) (by simp; exact Gives.mk) (by simp; exact Gives.mk) (by simp; exact Gives.mk) (by simp; exact Gives.mk) (fun _ => by first | exact blank_ok _) (by simp) (by simp) ?_ | refine run_callQ hc (by simp; exact Gives.mk) (by simp; exact Gives.mk) (by simp; exact Gives.mk) (by simp; exact Gives.mk) (by simp; exact Gives.mk) (fun _ => by first | exact blank_ok _) (by simp) (by simp) ?_ | refine run_ops hc (by simp; first | exact Ends.go | exact Ends.halt) (by decide) (by first | exact True.intro | omega | (simp; done) | (simp; omega) | (simp at *; omega)) ?_ | refine run_quiet hc (by simp; first | exact Ends.go | exact Ends.halt) (by decide) (by first | exact True.intro | omega | (simp; done) | (simp; omega) | (simp at *; omega)) ?_ | refine run_regionW hc (by simp; exact Ends.halt) (by first | exact True.intro | omega | (simp; done) | (simp; omega) | (simp at *; omega)) ?_ | refine run_drawN hc (by kernel_rfl) (by decide) (by kernel_rfl) (by simp; exact Ends.halt) (by first | exact True.intro | omega | (simp; done) | (simp; omega) | (simp at *; omega)) ?_ | fail))
      · exact ⟨i + 1, ⟨by omega, by omega, by rw [← i3, is (by omega), if_pos (by rw [hnb, hb.2]; rfl)]⟩, by omega, run_back [0, 3, 7, 8, 9, 11, 12, 13] [40000] (by simp; exact Gives.mk) (by simp; exact Gives.mk) (by simp)⟩
      all_goals
        have ht : bsk nBl l j (a + x.length) = i := by
          rw [← i3]
          by_cases h : i < a + x.length
          · rw [is h, if_neg (by rw [hnb, (show (i : Int) < a + x.length → isBl (l[i]?.getD 0) = true by assumption) (by omega)]; decide)]
          · rw [ie (by omega)]; omega
        rw [ht] at him
      · rw [if_pos hb] at him
        exact ⟨(k + 1, m ++ [(j, i)]), ⟨by simp; omega, him.symm⟩, by simp; omega, run_back [0, 3, 4, 11, 12, 13] [40000] (by simp; exact Gives.mk) (by simp; exact Gives.mk) (by simp [hnx])⟩
      · rw [if_neg (by omega), List.append_nil] at him
        exact ⟨(k + 1, m), ⟨by simp; omega, him.symm⟩, by simp; omega, run_back [0, 3, 4, 11, 12, 13] [40000] (by simp; exact Gives.mk) (by simp; exact Gives.mk) (by simp [hnx])⟩
  · exfalso; omega
theorem rImages_ok (l : Bs) (hm : l.length ≤ 200000) : FnOk Tryd.prog 19 [str l] (spSl (img l (Lib.split l [44]) (Lib.split l [44]).length)) := by
  have hsp := split_ok l 44 (by omega)
  have hof := split_offs l 44
  have hsl := split_len l 44
  generalize Lib.split l [44] = L at hsp hof hsl ⊢
  refine fnOk Tryd.func19 rfl (by kernel_rfl) Tryd.ntmps19 _ rfl (by simp) fun C hc => ?_
  repeat' (first | (first | refine ewp_seq ?_ | refine run_region hc (by simp; exact Ends.go) (by first | exact True.intro | omega | (simp; done) | (simp; omega) | (simp at *; omega)) ?_ | refine run_draw hc (by kernel_rfl) (by kernel_rfl) (by simp; exact Ends.go) (by first | exact True.intro | omega | (simp; done) | (simp; omega) | (simp at *; omega)) ?_ | refine ewp_scope ?_ | refine scopeQ_normal ?_ | refine scopeQ_ret ?_ | refine scopeQ_exit ?_ | refine ewp_skip ?_ | refine ewp_block ?_ | refine ewp_exit ?_ | refine ewp_label ?_ | refine thenQ_normal ?_ | refine thenQ_ret ?_ | refine thenQ_exit ?_ | refine blockQ_normal ?_ | refine blockQ_ret ?_ | refine blockQ_here ?_ | refine blockQ_there (by decide) ?_ | refine ewp_ret ?_ | refine opsW_nil ?_ | refine quietW_nil ?_ | (refine run_cond (by simp; exact Gives.mk) (fun hb => ?_) (fun hb => ?_) <;> (try simp at hb)) | fail) | (first | refine run_callW hc (by simp; exact Gives.mk) (by simp; exact Gives.mk) (by simp; exact Gives.mk) (by simp; exact Gives.mk) (by simp; exact Gives.mk) (fun _ => by first | exact hsp) (by simp) (by simp) ?_ | refine run_callQ hc (by simp; exact Gives.mk) (by simp; exact Gives.mk) (by simp; exact Gives.mk) (by simp; exact Gives.mk) (by simp; exact Gives.mk) (fun _ => by first | exact hsp) (by simp) (by simp) ?_ | refine run_ops hc (by simp; first | exact Ends.go | exact Ends.halt) (by decide) (by first | exact True.intro | omega | (simp; done) | (simp; omega) | (simp at *; omega)) ?_ | refine run_quiet hc (by simp; first | exact Ends.go | exact Ends.halt) (by decide) (by first | exact True.intro | omega | (simp; done) | (simp; omega) | (simp at *; omega)) ?_ | refine run_regionW hc (by simp; exact Ends.halt) (by first | exact True.intro | omega | (simp; done) | (simp; omega) | (simp at *; omega)) ?_ | refine run_drawN hc (by kernel_rfl) (by decide) (by kernel_rfl) (by simp; exact Ends.halt) (by first | exact True.intro | omega | (simp; done) | (simp; omega) | (simp at *; omega)) ?_ | fail))
  refine ewp_loop (fun x : Nat × List (Nat × Nat) => ⟨[(0, .d (str l)), (3, .os 40000 x.2.length), (4, .d (int (offs L x.1))), (11, .d (strSl L)), (12, .d (int L.length)), (13, .d (int x.1))], [(40000, .own 30 2 (true, zS) (x.2.map encS))]⟩) (fun x => x.1 ≤ L.length ∧ x.2 = img l L x.1) (fun x => L.length - x.1) (0, []) (by simp [img]) (run_keepB [(3, none, 40000, 30, zS)] [0, 3, 4, 11, 12, 13] [40000] (by simp; exact Gives.mk) (by simp; exact Gives.mk) (by simp; exact Gives.mk)) ?_
  rintro ⟨k, m⟩ ⟨h1, h2⟩
  simp only at h1 h2 ⊢
  have hml : m.length ≤ k := by rw [h2]; exact img_len l L k
  have hofk := hof k
  have hnx := offs_next L k
  have him : img l L (k + 1) = m ++ sp l (offs L k) (offs L k + (L[k]?.getD []).length) := by rw [h2]; rfl
  by_cases hk : k < L.length
  rotate_left
  · have hke : k = L.length := by omega
    repeat' (first | (first | refine ewp_seq ?_ | refine run_region hc (by simp; exact Ends.go) (by first | exact True.intro | omega | (simp; done) | (simp; omega) | (simp at *; omega)) ?_ | refine run_draw hc (by kernel_rfl) (by kernel_rfl) (by simp; exact Ends.go) (by first | exact True.intro | omega | (simp; done) | (simp; omega) | (simp at *; omega)) ?_ | refine ewp_scope ?_ | refine scopeQ_normal ?_ | refine scopeQ_ret ?_ | refine scopeQ_exit ?_ | refine ewp_skip ?_ | refine ewp_block ?_ | refine ewp_exit ?_ | refine ewp_label ?_ | refine thenQ_normal ?_ | refine thenQ_ret ?_ | refine thenQ_exit ?_ | refine blockQ_normal ?_ | refine blockQ_ret ?_ | refine blockQ_here ?_ | refine blockQ_there (by decide) ?_ | refine ewp_ret ?_ | refine opsW_nil ?_ | refine quietW_nil ?_ | (refine run_cond (by simp; exact Gives.mk) (fun hb => ?_) (fun hb => ?_) <;> (try simp at hb)) | fail) | (first | refine run_callW hc (by simp; exact Gives.mk) (by simp; exact Gives.mk) (by simp; exact Gives.mk) (by simp; exact Gives.mk) (by simp; exact Gives.mk) (fun _ => by first | exact trivial) (by simp) (by simp) ?_ | refine run_callQ hc (by simp; exact Gives.mk) (by simp; exact Gives.mk) (by simp; exact Gives.mk) (by simp; exact Gives.mk) (by simp; exact Gives.mk) (fun _ => by first | exact trivial) (by simp) (by simp) ?_ | refine run_ops hc (by simp; first | exact Ends.go | exact Ends.halt) (by decide) (by first | exact True.intro | omega | (simp; done) | (simp; omega) | (simp at *; omega)) ?_ | refine run_quiet hc (by simp; first | exact Ends.go | exact Ends.halt) (by decide) (by first | exact True.intro | omega | (simp; done) | (simp; omega) | (simp at *; omega)) ?_ | refine run_regionW hc (by simp; exact Ends.halt) (by first | exact True.intro | omega | (simp; done) | (simp; omega) | (simp at *; omega)) ?_ | refine run_drawN hc (by kernel_rfl) (by decide) (by kernel_rfl) (by simp; exact Ends.halt) (by first | exact True.intro | omega | (simp; done) | (simp; omega) | (simp at *; omega)) ?_ | fail))
    · exfalso; omega
    · rw [← hke, ← h2]
      (refine run_leave hc (by simp; exact Gives.mk) ?_)
      simp
  replace hofk := hofk hk
  replace hnx := hnx hk
  generalize offs L k = a at hofk hnx him ⊢
  have hbl := rBlanks_ok l a (by omega) hm
  have hsg := skip_ge isBl l a
  have hsl2 := skip_le isBl l a (by omega)
  unfold sp at him
  have hbsk : bsk isBl l a (a + (L[k]?.getD []).length) = min (skip isBl l a) (a + (L[k]?.getD []).length) := rfl
  rw [hbsk] at him
  generalize skip isBl l a = j at hbl hsg hsl2 him
  repeat' (first | (first | refine ewp_seq ?_ | refine run_region hc (by simp; exact Ends.go) (by first | exact True.intro | omega | (simp; done) | (simp; omega) | (simp at *; omega)) ?_ | refine run_draw hc (by kernel_rfl) (by kernel_rfl) (by simp; exact Ends.go) (by first | exact True.intro | omega | (simp; done) | (simp; omega) | (simp at *; omega)) ?_ | refine ewp_scope ?_ | refine scopeQ_normal ?_ | refine scopeQ_ret ?_ | refine scopeQ_exit ?_ | refine ewp_skip ?_ | refine ewp_block ?_ | refine ewp_exit ?_ | refine ewp_label ?_ | refine thenQ_normal ?_ | refine thenQ_ret ?_ | refine thenQ_exit ?_ | refine blockQ_normal ?_ | refine blockQ_ret ?_ | refine blockQ_here ?_ | refine blockQ_there (by decide) ?_ | refine ewp_ret ?_ | refine opsW_nil ?_ | refine quietW_nil ?_ | (refine run_cond (by simp; exact Gives.mk) (fun hb => ?_) (fun hb => ?_) <;> (try simp at hb)) | fail) | (first | refine run_callW hc (by simp; exact Gives.mk) (by simp; exact Gives.mk) (by simp; exact Gives.mk) (by simp; exact Gives.mk) (by simp; exact Gives.mk) (fun _ => by first | exact hbl) (by simp) (by simp) ?_ | refine run_callQ hc (by simp; exact Gives.mk) (by simp; exact Gives.mk) (by simp; exact Gives.mk) (by simp; exact Gives.mk) (by simp; exact Gives.mk) (fun _ => by first | exact hbl) (by simp) (by simp) ?_ | refine run_ops hc (by simp; first | exact Ends.go | exact Ends.halt) (by decide) (by first | exact True.intro | omega | (simp; done) | (simp; omega) | (simp at *; omega)) ?_ | refine run_quiet hc (by simp; first | exact Ends.go | exact Ends.halt) (by decide) (by first | exact True.intro | omega | (simp; done) | (simp; omega) | (simp at *; omega)) ?_ | refine run_regionW hc (by simp; exact Ends.halt) (by first | exact True.intro | omega | (simp; done) | (simp; omega) | (simp at *; omega)) ?_ | refine run_drawN hc (by kernel_rfl) (by decide) (by kernel_rfl) (by simp; exact Ends.halt) (by first | exact True.intro | omega | (simp; done) | (simp; omega) | (simp at *; omega)) ?_ | fail))
  · generalize L[k]?.getD [] = x at hofk hnx him ⊢
    repeat' (first | (first | refine ewp_seq ?_ | refine run_region hc (by simp; exact Ends.go) (by first | exact True.intro | omega | (simp; done) | (simp; omega) | (simp at *; omega)) ?_ | refine run_draw hc (by kernel_rfl) (by kernel_rfl) (by simp; exact Ends.go) (by first | exact True.intro | omega | (simp; done) | (simp; omega) | (simp at *; omega)) ?_ | refine ewp_scope ?_ | refine scopeQ_normal ?_ | refine scopeQ_ret ?_ | refine scopeQ_exit ?_ | refine ewp_skip ?_ | refine ewp_block ?_ | refine ewp_exit ?_ | refine ewp_label ?_ | refine thenQ_normal ?_ | refine thenQ_ret ?_ | refine thenQ_exit ?_ | refine blockQ_normal ?_ | refine blockQ_ret ?_ | refine blockQ_here ?_ | refine blockQ_there (by decide) ?_ | refine ewp_ret ?_ | refine opsW_nil ?_ | refine quietW_nil ?_ | (refine run_cond (by simp; exact Gives.mk) (fun hb => ?_) (fun hb => ?_) <;> (try simp at hb)) | fail) | (first | refine run_callW hc (by simp; exact Gives.mk) (by simp; exact Gives.mk) (by simp; exact Gives.mk) (by simp; exact Gives.mk) (by simp; exact Gives.mk) (fun _ => by first | exact trivial) (by simp) (by simp) ?_ | refine run_callQ hc (by simp; exact Gives.mk) (by simp; exact Gives.mk) (by simp; exact Gives.mk) (by simp; exact Gives.mk) (by simp; exact Gives.mk) (fun _ => by first | exact trivial) (by simp) (by simp) ?_ | refine run_ops hc (by simp; first | exact Ends.go | exact Ends.halt) (by decide) (by first | exact True.intro | omega | (simp; done) | (simp; omega) | (simp at *; omega)) ?_ | refine run_quiet hc (by simp; first | exact Ends.go | exact Ends.halt) (by decide) (by first | exact True.intro | omega | (simp; done) | (simp; omega) | (simp at *; omega)) ?_ | refine run_regionW hc (by simp; exact Ends.halt) (by first | exact True.intro | omega | (simp; done) | (simp; omega) | (simp at *; omega)) ?_ | refine run_drawN hc (by kernel_rfl) (by decide) (by kernel_rfl) (by simp; exact Ends.halt) (by first | exact True.intro | omega | (simp; done) | (simp; omega) | (simp at *; omega)) ?_ | fail))
    refine ewp_loop (fun i : Nat => ⟨[(0, .d (str l)), (3, .os 40000 m.length), (7, .d (int j)), (8, .d (int (a + x.length))), (9, .d (int i)), (11, .d (strSl L)), (12, .d (int L.length)), (13, .d (int k))], [(40000, .own 30 2 (true, zS) (m.map encS))]⟩) (fun i => j ≤ i ∧ (i ≤ a + x.length ∨ i = j) ∧ (j ≤ a + x.length → bsk nBl l i (a + x.length) = bsk nBl l j (a + x.length))) (fun i => a + x.length - i) j (by simp) (run_keep [0, 3, 7, 8, 9, 11, 12, 13] [40000] (by simp; exact Gives.mk) (by simp; exact Gives.mk)) ?_
    rintro i ⟨i1, i2, i3⟩
    have is := fun h => bsk_step (p := nBl) (l := l) (i := i) h hofk
    have ie := fun h => bsk_end (p := nBl) (l := l) (i := i) (n := a + x.length) h
    have hnb : nBl (l[i]?.getD 0) = !isBl (l[i]?.getD 0) := rfl
    repeat' (first | (first | refine ewp_seq ?_ | refine run_region hc (by simp; exact Ends.go) (by first | exact True.intro | omega | (simp; done) | (simp; omega) | (simp at *; omega)) ?_ | refine run_draw hc (by kernel_rfl) (by kernel_rfl) (by simp; exact Ends.go) (by first | exact True.intro | omega | (simp; done) | (simp; omega) | (simp at *; omega)) ?_ | refine ewp_scope ?_ | refine scopeQ_normal ?_ | refine scopeQ_ret ?_ | refine scopeQ_exit ?_ | refine ewp_skip ?_ | refine ewp_block ?_ | refine ewp_exit ?_ | refine ewp_label ?_ | refine thenQ_normal ?_ | refine thenQ_ret ?_ | refine thenQ_exit ?_ | refine blockQ_normal ?_ | refine blockQ_ret ?_ | refine blockQ_here ?_ | refine blockQ_there (by decide) ?_ | refine ewp_ret ?_ | refine opsW_nil ?_ | refine quietW_nil ?_ | (refine run_cond (by simp; exact Gives.mk) (fun hb => ?_) (fun hb => ?_) <;> (try simp at hb)) | fail) | (first | refine run_callW hc (by simp; exact Gives.mk) (by simp; exact Gives.mk) (by simp; exact Gives.mk) (by simp; exact Gives.mk) (by simp; exact Gives.mk) (fun _ => by first | exact rBlank_ok _) (by simp) (by simp) ?_ | refine run_callQ hc (by simp; exact Gives.mk) (by simp; exact Gives.mk) (by simp; exact Gives.mk) (by simp; exact Gives.mk) (by simp; exact Gives.mk) (fun _ => by first | exact rBlank_ok _) (by simp) (by simp) ?_ | refine run_ops hc (by simp; first | exact Ends.go | exact Ends.halt) (by decide) (by first | exact True.intro | omega | (simp; done) | (simp; omega) | (simp at *; omega)) ?_ | refine run_quiet hc (by simp; first | exact Ends.go | exact Ends.halt) (by decide) (by first | exact True.intro | omega | (simp; done) | (simp; omega) | (simp at *; omega)) ?_ | refine run_regionW hc (by simp; exact Ends.halt) (by first | exact True.intro | omega | (simp; done) | (simp; omega) | (simp at *; omega)) ?_ | refine run_drawN hc (by kernel_rfl) (by decide) (by kernel_rfl) (by simp; exact Ends.halt) (by first | exact True.intro | omega | (simp; done) | (simp; omega) | (simp at *; omega)) ?_ | fail))
    · exact ⟨i + 1, ⟨by omega, by omega, fun h => by rw [← i3 h, is (by omega), if_pos (by rw [hnb, hb.2]; rfl)]⟩, by omega, run_back [0, 3, 7, 8, 9, 11, 12, 13] [40000] (by simp; exact Gives.mk) (by simp; exact Gives.mk) (by simp)⟩
    all_goals
      have ht : j ≤ a + x.length → bsk nBl l j (a + x.length) = i := fun hle => by
        rw [← i3 hle]
        by_cases h : i < a + x.length
        · rw [is h, if_neg (by rw [hnb, (show (i : Int) < a + x.length → isBl (l[i]?.getD 0) = true by assumption) (by omega)]; decide)]
        · rw [ie (by omega)]; omega
    · have hjn : min j (a + x.length) = j := by omega
      rw [hjn, ht (by omega), if_pos (by omega)] at him
      exact ⟨(k + 1, m ++ [(j, i)]), ⟨by simp; omega, him.symm⟩, by simp; omega, run_back [0, 3, 4, 11, 12, 13] [40000] (by simp; exact Gives.mk) (by simp; exact Gives.mk) (by simp [hnx])⟩
    · have hno : ¬ min j (a + x.length) < bsk nBl l (min j (a + x.length)) (a + x.length) := by
        rcases Nat.lt_or_ge j (a + x.length) with h | h
        · have hjn : min j (a + x.length) = j := by omega
          rw [hjn, ht (by omega)]
          omega
        · have hjn : min j (a + x.length) = a + x.length := by omega
          rw [hjn, bsk_end (Nat.le_refl _)]
          omega
      rw [if_neg hno, List.append_nil] at him
      exact ⟨(k + 1, m), ⟨by simp; omega, him.symm⟩, by simp; omega, run_back [0, 3, 4, 11, 12, 13] [40000] (by simp; exact Gives.mk) (by simp; exact Gives.mk) (by simp [hnx])⟩
  · exfalso; omega
end Go.Proofs.YtgebkjngnfdeiaaDoor
