/-
  FrontierSharesAddUp: for every number and every row of claims, what Shares gives out adds up to the number, or to all that the hosts can have, and is within what each can have; the law's own function answers true, and what came in reads as it did.
-/
import Derived.Test.YtgflkcfghmncmaaFrSharesW
namespace Go.Proofs.Ytgflkcfghmncmaa
open Go.Lw Go.RowKit Go.ChangeShapes Go.WideShapes Go.ChangeAt
set_option maxRecDepth 100000
set_option maxHeartbeats 400000

theorem sum_set (l : List Int) (k : Int) : ∀ (j : Nat), j < l.length → (l.set j (l[j]?.getD 0 + k)).sum = l.sum + k := by
  induction l with
  | nil => intro j hj; simp at hj
  | cons x l ih =>
    intro j hj
    cases j with
    | zero => simp; omega
    | succ j =>
      have := ih j (by simpa using hj)
      simp only [List.set_cons_succ, List.sum_cons, List.getElem?_cons_succ]
      omega

theorem give_spec {l : List Clm} {whole weight : Int} (h0 : 0 ≤ whole) (hwt : 1 ≤ weight) (j : Nat) (out : List Int) (n : Int) (h : Fits l out) (hj : j ≤ l.length) (hn : 0 ≤ n) (hle : (whole - n) * weight + whole * wFrom l out j ≤ whole * weight) :
    Fits l (giveFrom l whole weight j out n).1 ∧ 0 ≤ (giveFrom l whole weight j out n).2 ∧ (giveFrom l whole weight j out n).2 ≤ n ∧ (giveFrom l whole weight j out n).1.sum + (giveFrom l whole weight j out n).2 = out.sum + n ∧
      ((giveFrom l whole weight j out n).2 = n → (giveFrom l whole weight j out n).1 = out) := by
  rw [giveFrom]
  rw [wFrom] at hle
  split
  · rename_i hlt
    rw [if_pos hlt] at hle
    have hlen := h.len
    have hv := (wFrom_bd h (j + 1) (by omega)).1
    have hat := h.at_ j hlt
    split
    · rename_i ho
      rw [if_pos ho] at hle
      simp only
      obtain ⟨hk0, hk1, hk2⟩ := give_take (most := (l[j]?.getD (0, 0)).2) (o := out[j]?.getD 0) h0 (h.ok j hlt).1 hwt ho
      generalize (if (l[j]?.getD (0, 0)).2 - out[j]?.getD 0 < (whole * (l[j]?.getD (0, 0)).1).tdiv weight then (l[j]?.getD (0, 0)).2 - out[j]?.getD 0 else (whole * (l[j]?.getD (0, 0)).1).tdiv weight) = k at hk0 hk1 hk2
      obtain ⟨hg1, hg2⟩ := give_left (n := n) hwt h0 hv hle hk2
      obtain ⟨a1, a2, a3, a4, a5⟩ := give_spec h0 hwt (j + 1) (out.set j (out[j]?.getD 0 + k)) (n - k) (h.put (by omega) (by omega)) (by omega) hg2 (by rw [wFrom_set _ _ _ (by omega)]; exact hg1)
      rw [sum_set out k j (by omega)] at a4
      refine ⟨a1, a2, by omega, by omega, fun he => ?_⟩
      obtain rfl : k = 0 := by omega
      have e1 : out.set j (out[j]?.getD 0 + 0) = out := by rw [Int.add_zero, set_same]
      rw [e1] at a2 a3 a5 he ⊢
      exact a5 (by omega)
    · rename_i ho
      rw [if_neg ho, Int.zero_add] at hle
      exact give_spec h0 hwt (j + 1) out n h (by omega) hn hle
  · exact ⟨h, hn, by simp, rfl, fun _ => rfl⟩
termination_by l.length - j
theorem one_spec {l : List Clm} (j : Nat) (out : List Int) (n : Int) (h : Fits l out) (hn : 0 ≤ n) :
    Fits l (oneFrom l j out n).1 ∧ 0 ≤ (oneFrom l j out n).2 ∧ (oneFrom l j out n).2 ≤ n ∧ (oneFrom l j out n).1.sum + (oneFrom l j out n).2 = out.sum + n ∧ (0 < n → 0 < wFrom l out j → (oneFrom l j out n).2 < n) := by
  rw [oneFrom, wFrom]
  split
  · rename_i hlt
    have hlen := h.len
    have hat := h.at_ j hlt
    split
    · rename_i ho
      obtain ⟨a1, a2, a3, a4, _⟩ := one_spec (j + 1) (out.set j (out[j]?.getD 0 + 1)) (n - 1) (h.put (by omega) (by omega)) (by omega)
      rw [sum_set out 1 j (by omega)] at a4
      exact ⟨a1, a2, by omega, by omega, fun _ _ => by omega⟩
    · rename_i ho
      obtain ⟨a1, a2, a3, a4, a5⟩ := one_spec (j + 1) out n h hn
      refine ⟨a1, a2, a3, a4, fun h1 h2 => a5 h1 ?_⟩
      rw [if_neg (by omega)] at h2
      omega
  · exact ⟨h, hn, by simp, rfl, fun _ h2 => by omega⟩
termination_by l.length - j
theorem round_spec {l : List Clm} (out : List Int) (n : Int) (h : Fits l out) (hn : 0 < n) (hw : wFrom l out 0 ≠ 0) :
    Fits l (roundF l out n).1 ∧ 0 ≤ (roundF l out n).2 ∧ (roundF l out n).2 < n ∧ (roundF l out n).1.sum + (roundF l out n).2 = out.sum + n := by
  have hb := wFrom_bd h 0 (by omega)
  obtain ⟨a1, a2, a3, a4, a5⟩ := give_spec (whole := n) (weight := wFrom l out 0) (by omega) (by omega) 0 out n h (by omega) (by omega) (by simp)
  unfold roundF
  simp only
  split
  · exact ⟨a1, a2, by assumption, a4⟩
  · obtain ⟨b1, b2, b3, b4, b5⟩ := one_spec 0 _ _ a1 a2
    have e := a5 (by omega)
    rw [e] at b1 b2 b3 b4 b5 a4 ⊢
    exact ⟨b1, b2, by have := b5 (by omega) (by omega); omega, by omega⟩
theorem full {l : List Clm} {out : List Int} (h : Fits l out) (j : Nat) (hw : wFrom l out j = 0) : ∀ i, j ≤ i → i < l.length → out[i]?.getD 0 = (l[i]?.getD (0, 0)).2 := by
  intro i hi hl
  rw [wFrom, if_pos (by omega)] at hw
  have h1 := (wFrom_bd h (j + 1) (by omega)).1
  have h2 := h.ok j (by omega)
  have h3 := h.at_ j (by omega)
  split at hw
  · omega
  · rcases Nat.eq_or_lt_of_le hi with rfl | hlt
    · omega
    · exact full h (j + 1) (by omega) i hlt hl
termination_by l.length - j
theorem shares_spec {l : List Clm} (out : List Int) (n : Int) (h : Fits l out) (hn : 0 ≤ n) :
    Fits l (sharesF l out n) ∧ ((sharesF l out n).sum = out.sum + n ∨ ((sharesF l out n).sum ≤ out.sum + n ∧ ∀ i, i < l.length → (sharesF l out n)[i]?.getD 0 = (l[i]?.getD (0, 0)).2)) := by
  rw [sharesF]
  split
  · rename_i h0
    split
    · rename_i hw
      exact ⟨h, .inr ⟨by omega, fun i hi => full h 0 hw i (by omega) hi⟩⟩
    · rename_i hw
      obtain ⟨a1, a2, a3, a4⟩ := round_spec out n h h0 hw
      rw [dif_pos a3]
      obtain ⟨b1, b2⟩ := shares_spec _ _ a1 a2
      rw [a4] at b2
      exact ⟨b1, b2⟩
  · exact ⟨h, .inl (by omega)⟩
termination_by n.toNat
decreasing_by omega

theorem sum_take (l : List Int) (j : Nat) (h : j < l.length) : (l.take (j + 1)).sum = (l.take j).sum + l[j]?.getD 0 := by
  rw [List.take_add_one, List.sum_append]
  simp [h]
theorem sum_le {l : List Clm} : ∀ (out : List Int), out.length = l.length → (∀ i, i < l.length → out[i]?.getD 0 ≤ (l[i]?.getD (0, 0)).2) → out.sum ≤ (l.map (·.2)).sum := by
  induction l with
  | nil => intro out h _; cases out with | nil => simp | cons => simp at h
  | cons c l ih =>
    intro out h hi
    cases out with
    | nil => simp at h
    | cons x out =>
      have h1 := hi 0 (by simp)
      have h2 := ih out (by simpa using h) (fun i hl => by simpa using hi (i + 1) (by simpa using hl))
      simp only [List.getElem?_cons_zero, Option.getD_some] at h1
      simp only [List.sum_cons, List.map_cons]
      omega
theorem sum_eq {l : List Clm} (out : List Int) (hl : out.length = l.length) (h : ∀ i, i < l.length → out[i]?.getD 0 = (l[i]?.getD (0, 0)).2) : out.sum = (l.map (·.2)).sum := by
  congr 1
  apply List.ext_getElem?
  intro i
  by_cases hi : i < l.length
  · have := h i hi
    simp [hi, show i < out.length by omega] at this
    simp [hi, show i < out.length by omega, this]
  · rw [List.getElem?_eq_none (by omega), List.getElem?_eq_none (by simp; omega)]

theorem Sum_ok (l : List Int) (hm : l.length ≤ 300) (h : ∀ i, i < l.length → 0 ≤ l[i]?.getD 0 ∧ l[i]?.getD 0 ≤ 1000000) : FnOk Try.prog 15 [intSl l] (int l.sum) := by
  refine fnOk Try.func15 rfl (by kernel_rfl) Try.ntmps15 _ rfl (by simp) fun C hc => ?_
  repeat' (first | refine ewp_seq ?_ | refine run_region hc (by simp; exact Ends.go) (by first | exact True.intro | omega | (simp; done) | (simp; omega) | (simp at *; omega)) ?_ | refine run_draw hc (by kernel_rfl) (by kernel_rfl) (by simp; exact Ends.go) (by first | exact True.intro | omega | (simp; done) | (simp; omega) | (simp at *; omega)) ?_ | refine ewp_skip ?_ | refine ewp_block ?_ | refine ewp_exit ?_ | refine ewp_label ?_ | refine thenQ_normal ?_ | refine thenQ_ret ?_ | refine thenQ_exit ?_ | refine blockQ_normal ?_ | refine blockQ_ret ?_ | refine blockQ_here ?_ | refine blockQ_there (by decide) ?_ | refine ewp_ret ?_ | refine opsW_nil ?_ | refine quietW_nil ?_ | (refine run_cond (by simp; exact Gives.mk) (fun hb => ?_) (fun hb => ?_) <;> (try simp at hb)) | fail)
  refine ewp_loop (fun x : Nat × Int => ⟨[(3, .d (int x.2)), (6, .d (intSl l)), (7, .d (int l.length)), (8, .d (int x.1))], []⟩) (fun x => x.1 ≤ l.length ∧ x.2 = (l.take x.1).sum ∧ 0 ≤ x.2 ∧ x.2 ≤ 1000000 * (x.1 : Int)) (fun x => l.length - x.1) (0, 0) ⟨by simp, by simp, by simp, by simp⟩ (run_keep [3, 6, 7, 8] [] (by simp; exact Gives.mk) (by simp; exact Gives.mk)) ?_
  rintro ⟨j, n⟩ ⟨hj, hs, h0, h1⟩
  simp only at hj hs h0 h1 ⊢
  have hi := h j
  repeat' (first | refine ewp_seq ?_ | refine run_region hc (by simp; exact Ends.go) (by first | exact True.intro | omega | (simp; done) | (simp; omega) | (simp at *; omega)) ?_ | refine run_draw hc (by kernel_rfl) (by kernel_rfl) (by simp; exact Ends.go) (by first | exact True.intro | omega | (simp; done) | (simp; omega) | (simp at *; omega)) ?_ | refine ewp_skip ?_ | refine ewp_block ?_ | refine ewp_exit ?_ | refine ewp_label ?_ | refine thenQ_normal ?_ | refine thenQ_ret ?_ | refine thenQ_exit ?_ | refine blockQ_normal ?_ | refine blockQ_ret ?_ | refine blockQ_here ?_ | refine blockQ_there (by decide) ?_ | refine ewp_ret ?_ | refine opsW_nil ?_ | refine quietW_nil ?_ | (refine run_cond (by simp; exact Gives.mk) (fun hb => ?_) (fun hb => ?_) <;> (try simp at hb)) | fail)
  · refine ⟨(j + 1, n + l[j]?.getD 0), ⟨by simp; omega, ?_, by simp; omega, by simp; omega⟩, by simp; omega, run_back [3, 6, 7, 8] [] (by simp; exact Gives.mk) (by simp; exact Gives.mk) (by simp)⟩
    simp only
    rw [sum_take l j (by omega), hs]
  · (refine run_leave hc (by simp; exact Gives.mk) ?_)
    refine res_int ?_
    rw [hs, List.take_of_length_le (by omega)]
theorem Can_ok (l : List Clm) (hm : l.length ≤ 300) (h : ∀ i, i < l.length → 0 ≤ (l[i]?.getD (0, 0)).2 ∧ (l[i]?.getD (0, 0)).2 ≤ 1000000) : FnOk Try.prog 16 [clmSl l] (int (l.map (·.2)).sum) := by
  refine fnOk Try.func16 rfl (by kernel_rfl) Try.ntmps16 _ rfl (by simp) fun C hc => ?_
  repeat' (first | refine ewp_seq ?_ | refine run_region hc (by simp; exact Ends.go) (by first | exact True.intro | omega | (simp; done) | (simp; omega) | (simp at *; omega)) ?_ | refine run_draw hc (by kernel_rfl) (by kernel_rfl) (by simp; exact Ends.go) (by first | exact True.intro | omega | (simp; done) | (simp; omega) | (simp at *; omega)) ?_ | refine ewp_skip ?_ | refine ewp_block ?_ | refine ewp_exit ?_ | refine ewp_label ?_ | refine thenQ_normal ?_ | refine thenQ_ret ?_ | refine thenQ_exit ?_ | refine blockQ_normal ?_ | refine blockQ_ret ?_ | refine blockQ_here ?_ | refine blockQ_there (by decide) ?_ | refine ewp_ret ?_ | refine opsW_nil ?_ | refine quietW_nil ?_ | (refine run_cond (by simp; exact Gives.mk) (fun hb => ?_) (fun hb => ?_) <;> (try simp at hb)) | fail)
  refine ewp_loop (fun x : Nat × Int => ⟨[(3, .d (int x.2)), (6, .d (clmSl l)), (7, .d (int l.length)), (8, .d (int x.1))], []⟩) (fun x => x.1 ≤ l.length ∧ x.2 = ((l.map (·.2)).take x.1).sum ∧ 0 ≤ x.2 ∧ x.2 ≤ 1000000 * (x.1 : Int)) (fun x => l.length - x.1) (0, 0) ⟨by simp, by simp, by simp, by simp⟩ (run_keep [3, 6, 7, 8] [] (by simp; exact Gives.mk) (by simp; exact Gives.mk)) ?_
  rintro ⟨j, n⟩ ⟨hj, hs, h0, h1⟩
  simp only at hj hs h0 h1 ⊢
  have hi := h j
  repeat' (first | refine ewp_seq ?_ | refine run_region hc (by simp; exact Ends.go) (by first | exact True.intro | omega | (simp; done) | (simp; omega) | (simp at *; omega)) ?_ | refine run_draw hc (by kernel_rfl) (by kernel_rfl) (by simp; exact Ends.go) (by first | exact True.intro | omega | (simp; done) | (simp; omega) | (simp at *; omega)) ?_ | refine ewp_skip ?_ | refine ewp_block ?_ | refine ewp_exit ?_ | refine ewp_label ?_ | refine thenQ_normal ?_ | refine thenQ_ret ?_ | refine thenQ_exit ?_ | refine blockQ_normal ?_ | refine blockQ_ret ?_ | refine blockQ_here ?_ | refine blockQ_there (by decide) ?_ | refine ewp_ret ?_ | refine opsW_nil ?_ | refine quietW_nil ?_ | (refine run_cond (by simp; exact Gives.mk) (fun hb => ?_) (fun hb => ?_) <;> (try simp at hb)) | fail)
  · refine ⟨(j + 1, n + (l[j]?.getD (0, 0)).2), ⟨by simp; omega, ?_, by simp; omega, by simp; omega⟩, by simp; omega, run_back [3, 6, 7, 8] [] (by simp; exact Gives.mk) (by simp; exact Gives.mk) (by simp)⟩
    simp only
    rw [sum_take _ j (by simp; omega), hs]
    simp [show j < l.length by omega]
  · (refine run_leave hc (by simp; exact Gives.mk) ?_)
    refine res_int ?_
    rw [hs, List.take_of_length_le (by simp; omega)]

theorem opn_claim : Opn Try.prog 37 encClm (fun v => inR .i64 v.1 ∧ inR .i64 v.2) :=
  (opn_flds (total := 2) Try.underlying37 rfl (by kernel_rfl) (flds_cons (n := 1) (by kernel_rfl) (by simp) (opn_int Try.underlying3) (flds_cons (n := 1) (by kernel_rfl) (by simp) (opn_int Try.underlying3) flds_nil))).map (fun x => (x.1, x.2.1)) (fun _ _ => rfl) (fun _ h => ⟨h.1, h.2.1⟩)
theorem opn_claims : OpnA Try.prog 32 clmSl (fun l => l.length ≤ maxLen ∧ ∀ x ∈ l, inR .i64 x.1 ∧ inR .i64 x.2) :=
  opnA_cell (opn_slice ((0, 0) : Clm) Try.underlying32 (n := 2) (by kernel_rfl) (by omega) opn_claim) (fun _ => rfl) (by kernel_rfl)
theorem law5_ok (n : Int) (l : List Clm) (hm : l.length ≤ 9223372036854775807) : FnOk Try.prog 5 [int n, clmSl l] (tru true) := by
  have hS := Shares_ok n l hm
  refine fnOk Try.func5 rfl (by kernel_rfl) Try.ntmps5 _ rfl (by simp) fun C hc => ?_
  by_cases hk : checkClaims n l = 0
  · have hcl : l.length ≤ 300 ∧ clmFrom l 0 = false ∧ 0 ≤ n ∧ n ≤ 1000000000 := by
      unfold checkClaims at hk
      split at hk
      · omega
      split at hk
      · omega
      split at hk
      · omega
      rename_i h1 h2 h3
      exact ⟨by omega, by simpa using h2, by omega, by omega⟩
    obtain ⟨c1, c2, c3, c4⟩ := hcl
    have hok := clmFrom_range l 0 c2
    have hfit0 : Fits l (List.replicate l.length 0) := ⟨by simp, c1, fun i hi => hok i (by omega) hi, fun i hi => by have := hok i (by omega) hi; simp [hi] at this ⊢; omega⟩
    obtain ⟨s1, s2⟩ := shares_spec (List.replicate l.length 0) n hfit0 c3
    simp only [hk, ne_eq, not_true_eq_false, if_false] at hS
    generalize sharesF l (List.replicate l.length 0) n = out at hS s1 s2
    have hlen := s1.len
    have hsum := Sum_ok out (by omega) (fun i hi => by have := s1.at_ i (by omega); have := s1.ok i (by omega); omega)
    have hcan := Can_ok l c1 (fun i hi => by have := s1.ok i hi; omega)
    have hle := sum_le out hlen (fun i hi => (s1.at_ i hi).2)
    have hmin : out.sum = if (l.map (·.2)).sum < n then (l.map (·.2)).sum else n := by
      rcases s2 with s2 | ⟨s2, s3⟩
      · simp at s2; split <;> omega
      · have := sum_eq out hlen s3
        simp at s2
        split <;> omega
    repeat' (first | (first | refine ewp_seq ?_ | refine run_region hc (by simp; exact Ends.go) (by first | exact True.intro | omega | (simp; done) | (simp; omega) | (simp at *; omega)) ?_ | refine run_draw hc (by kernel_rfl) (by kernel_rfl) (by simp; exact Ends.go) (by first | exact True.intro | omega | (simp; done) | (simp; omega) | (simp at *; omega)) ?_ | refine ewp_skip ?_ | refine ewp_block ?_ | refine ewp_exit ?_ | refine ewp_label ?_ | refine thenQ_normal ?_ | refine thenQ_ret ?_ | refine thenQ_exit ?_ | refine blockQ_normal ?_ | refine blockQ_ret ?_ | refine blockQ_here ?_ | refine blockQ_there (by decide) ?_ | refine ewp_ret ?_ | refine opsW_nil ?_ | refine quietW_nil ?_ | (refine run_cond (by simp; exact Gives.mk) (fun hb => ?_) (fun hb => ?_) <;> (try simp at hb)) | fail) | (first | refine run_callW hc (by simp; exact Gives.mk) (by simp; exact Gives.mk) (by simp; exact Gives.mk) (by simp; exact Gives.mk) (by simp; exact Gives.mk) (fun _ => by first | exact hS | exact awake_ok) (by simp) (by simp) ?_ | refine run_callQ hc (by simp; exact Gives.mk) (by simp; exact Gives.mk) (by simp; exact Gives.mk) (by simp; exact Gives.mk) (by simp; exact Gives.mk) (fun _ => by first | exact hS | exact awake_ok) (by simp) (by simp) ?_ | refine run_ops hc (by simp; first | exact Ends.go | exact Ends.halt) (by decide) (by first | exact True.intro | omega | (simp; done) | (simp; omega) | (simp at *; omega)) ?_ | refine run_quiet hc (by simp; first | exact Ends.go | exact Ends.halt) (by decide) (by first | exact True.intro | omega | (simp; done) | (simp; omega) | (simp at *; omega)) ?_ | refine run_regionW hc (by simp; exact Ends.halt) (by first | exact True.intro | omega | (simp; done) | (simp; omega) | (simp at *; omega)) ?_ | refine run_drawW hc (by kernel_rfl) (by kernel_rfl) (by simp; exact Ends.halt) (by first | exact True.intro | omega | (simp; done) | (simp; omega) | (simp at *; omega)) ?_ | fail))
    · (refine run_leave hc (by simp; exact Gives.mk) ?_)
      simp; omega
    refine ewp_loop (fun j : Nat => ⟨[(0, .d (int n)), (1, .d (clmSl l)), (5, .d (intSl out)), (32, .d (clmSl l)), (33, .d (int l.length)), (34, .d (int j))], []⟩) (fun j => j ≤ l.length) (fun j => l.length - j) 0 (by simp) (run_keep [0, 1, 5, 32, 33, 34] [] (by simp; exact Gives.mk) (by simp; exact Gives.mk)) ?_
    intro j hj
    have hat := s1.at_ j
    repeat' (first | (first | refine ewp_seq ?_ | refine run_region hc (by simp; exact Ends.go) (by first | exact True.intro | omega | (simp; done) | (simp; omega) | (simp at *; omega)) ?_ | refine run_draw hc (by kernel_rfl) (by kernel_rfl) (by simp; exact Ends.go) (by first | exact True.intro | omega | (simp; done) | (simp; omega) | (simp at *; omega)) ?_ | refine ewp_skip ?_ | refine ewp_block ?_ | refine ewp_exit ?_ | refine ewp_label ?_ | refine thenQ_normal ?_ | refine thenQ_ret ?_ | refine thenQ_exit ?_ | refine blockQ_normal ?_ | refine blockQ_ret ?_ | refine blockQ_here ?_ | refine blockQ_there (by decide) ?_ | refine ewp_ret ?_ | refine opsW_nil ?_ | refine quietW_nil ?_ | (refine run_cond (by simp; exact Gives.mk) (fun hb => ?_) (fun hb => ?_) <;> (try simp at hb)) | fail) | (first | refine run_callW hc (by simp; exact Gives.mk) (by simp; exact Gives.mk) (by simp; exact Gives.mk) (by simp; exact Gives.mk) (by simp; exact Gives.mk) (fun _ => by first | exact hsum | exact hcan) (by simp) (by simp) ?_ | refine run_callQ hc (by simp; exact Gives.mk) (by simp; exact Gives.mk) (by simp; exact Gives.mk) (by simp; exact Gives.mk) (by simp; exact Gives.mk) (fun _ => by first | exact hsum | exact hcan) (by simp) (by simp) ?_ | refine run_ops hc (by simp; first | exact Ends.go | exact Ends.halt) (by decide) (by first | exact True.intro | omega | (simp; done) | (simp; omega) | (simp at *; omega)) ?_ | refine run_quiet hc (by simp; first | exact Ends.go | exact Ends.halt) (by decide) (by first | exact True.intro | omega | (simp; done) | (simp; omega) | (simp at *; omega)) ?_ | refine run_regionW hc (by simp; exact Ends.halt) (by first | exact True.intro | omega | (simp; done) | (simp; omega) | (simp at *; omega)) ?_ | refine run_drawW hc (by kernel_rfl) (by kernel_rfl) (by simp; exact Ends.halt) (by first | exact True.intro | omega | (simp; done) | (simp; omega) | (simp at *; omega)) ?_ | fail))
    · omega
    · exact ⟨j + 1, by omega, by omega, run_back [0, 1, 5, 32, 33, 34] [] (by simp; exact Gives.mk) (by simp; exact Gives.mk) (by simp)⟩
    · (refine run_leave hc (by simp; exact Gives.mk) ?_)
      simp [hmin]
  · simp only [hk, ne_eq, not_false_eq_true, if_true] at hS
    repeat' (first | (first | refine ewp_seq ?_ | refine run_region hc (by simp; exact Ends.go) (by first | exact True.intro | omega | (simp; done) | (simp; omega) | (simp at *; omega)) ?_ | refine run_draw hc (by kernel_rfl) (by kernel_rfl) (by simp; exact Ends.go) (by first | exact True.intro | omega | (simp; done) | (simp; omega) | (simp at *; omega)) ?_ | refine ewp_skip ?_ | refine ewp_block ?_ | refine ewp_exit ?_ | refine ewp_label ?_ | refine thenQ_normal ?_ | refine thenQ_ret ?_ | refine thenQ_exit ?_ | refine blockQ_normal ?_ | refine blockQ_ret ?_ | refine blockQ_here ?_ | refine blockQ_there (by decide) ?_ | refine ewp_ret ?_ | refine opsW_nil ?_ | refine quietW_nil ?_ | (refine run_cond (by simp; exact Gives.mk) (fun hb => ?_) (fun hb => ?_) <;> (try simp at hb)) | fail) | (first | refine run_callW hc (by simp; exact Gives.mk) (by simp; exact Gives.mk) (by simp; exact Gives.mk) (by simp; exact Gives.mk) (by simp; exact Gives.mk) (fun _ => by first | exact hS | exact awake_ok) (by simp) (by simp) ?_ | refine run_callQ hc (by simp; exact Gives.mk) (by simp; exact Gives.mk) (by simp; exact Gives.mk) (by simp; exact Gives.mk) (by simp; exact Gives.mk) (fun _ => by first | exact hS | exact awake_ok) (by simp) (by simp) ?_ | refine run_ops hc (by simp; first | exact Ends.go | exact Ends.halt) (by decide) (by first | exact True.intro | omega | (simp; done) | (simp; omega) | (simp at *; omega)) ?_ | refine run_quiet hc (by simp; first | exact Ends.go | exact Ends.halt) (by decide) (by first | exact True.intro | omega | (simp; done) | (simp; omega) | (simp at *; omega)) ?_ | refine run_regionW hc (by simp; exact Ends.halt) (by first | exact True.intro | omega | (simp; done) | (simp; omega) | (simp at *; omega)) ?_ | refine run_drawW hc (by kernel_rfl) (by kernel_rfl) (by simp; exact Ends.halt) (by first | exact True.intro | omega | (simp; done) | (simp; omega) | (simp at *; omega)) ?_ | fail))
    all_goals try contradiction
    (refine run_leave hc (by simp; exact Gives.mk) ?_)
    simp
theorem liftedFrontierSharesAddUp (os : Os) (started : os.Started) (H : Type) (enc : TypeId × Value → H) :
    ReturnsInHanded {} Try.checked os 5 .any (Rows.frontierSharesAddUpSpec.pre6 enc Try.prog Try.f5 Rows.frontierSharesAddUpRow.domain false) (Rows.frontierSharesAddUpSpec.post enc Try.prog Try.f5 false true false false) := by
  refine returnsInHanded_of_change (C := Try.checked) own started (by kernel_rfl) Try.func5
    (ChangeSpec.witness6 (enc := enc) (C := Try.checked) false ⟨#[], #[.int .i64 0, .slice none 0 0], []⟩ 8 (by kernel_rfl) (by kernel_rfl) (by kernel_rfl) (by kernel_rfl)) ?_
  intro W base args ds gs before hval0 hW hcnd _
  have hval : ∀ (j : Nat) t v, Try.f5.params[j]? = some t → args[j]? = some v → Value.okWide Try.prog W .any base t v := hval0
  have hW' := hW
  obtain ⟨p, q, hA0, _, _, _, _⟩ := hW
  have hA : DataW.TrodAll enc Try.prog W 0 (fun _ => true) true Try.f5.params.toList args.toList ds p := hA0
  rw [Try.params5] at hA hval
  obtain ⟨v0, _, d0, _, p0, _, hargs, rfl, _, h0, r0⟩ := trodAll_cons hA
  obtain ⟨v1, _, d1, _, p1, _, rfl, rfl, _, h1, r1⟩ := trodAll_cons r0
  obtain ⟨rfl, rfl, _⟩ := trodAll_nil r1
  obtain rfl : args = #[v0, v1] := by cases args; simp_all
  obtain ⟨a0, c0, e0⟩ := opnA_i H enc W base v0 d0 p0 (hval 0 _ v0 rfl rfl) h0
  obtain ⟨a1, c1, e1⟩ := opn_claims H enc W base v1 d1 p1 (hval 1 _ v1 rfl rfl) h1
  exact law_contract laidOut (of_decide_eq_true (by kernel_rfl)) rfl Try.underlying4 rfl (fun ds hd => by
    match ds, hd with
    | [_, _], _ => rfl) hW' (ArgsL.rd (.cons e0 (.cons e1 .nil))) (law5_ok a0 a1 c1.1)
theorem overFrontierSharesAddUp : Rows.frontierSharesAddUpRow.holds Try.pinned (OpenSpec.ofChange Rows.frontierSharesAddUpSpec) :=
  OpenClaim.holds_of_wide 5 Try.f5 rfl rfl rfl rfl rfl rfl rfl ⟨rfl, rfl, rfl, rfl, rfl⟩ rfl rfl rfl rfl rfl (by kernel_rfl) Try.func5 (by kernel_rfl)
    (of_decide_eq_true (by kernel_rfl)) (by unfold Func.isWrapper; first | (rw [if_pos (by decide +kernel)]; kernel_rfl) | (rw [if_neg (by decide +kernel)]; exact ⟨rfl, rfl⟩))
    (fun os started H enc _ => liftedFrontierSharesAddUp os started H enc)

/-- The given statement. -/
theorem frontierSharesAddUp_proved : Rows.FrontierSharesAddUpSaid := overFrontierSharesAddUp
#print axioms frontierSharesAddUp_proved
end Go.Proofs.Ytgflkcfghmncmaa
