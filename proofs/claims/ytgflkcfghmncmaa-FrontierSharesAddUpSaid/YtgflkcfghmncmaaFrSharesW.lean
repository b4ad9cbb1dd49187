/-
  FRONTIER: shares: the walk through Shares.
-/
import Derived.Test.YtgflkcfghmncmaaFrShares
namespace Go.Proofs.Ytgflkcfghmncmaa
open Go.Lw
set_option maxRecDepth 100000
set_option maxHeartbeats 400000

theorem Shares_ok (n : Int) (l : List Clm) (hm : l.length ≤ 9223372036854775807) : FnOk Try.prog 14 [int n, clmSl l]
    (if checkClaims n l ≠ 0 then .tup [.lit (.slice none 0 0), int (checkClaims n l)] else .tup [intSl (sharesF l (List.replicate l.length 0) n), int 0]) := by
  refine fnOk Try.func14 rfl (by kernel_rfl) Try.ntmps14 _ rfl (by simp) fun C hc => ?_
  repeat' (first | refine ewp_seq ?_ | refine run_region hc (by simp; exact Ends.go) (by first | exact True.intro | omega | (simp; done) | (simp; omega) | (simp at *; omega)) ?_ | refine run_draw hc (by kernel_rfl) (by kernel_rfl) (by simp; exact Ends.go) (by first | exact True.intro | omega | (simp; done) | (simp; omega) | (simp at *; omega)) ?_ | refine ewp_skip ?_ | refine ewp_block ?_ | refine ewp_exit ?_ | refine ewp_label ?_ | refine thenQ_normal ?_ | refine thenQ_ret ?_ | refine thenQ_exit ?_ | refine blockQ_normal ?_ | refine blockQ_ret ?_ | refine blockQ_here ?_ | refine blockQ_there (by decide) ?_ | refine ewp_ret ?_ | refine opsW_nil ?_ | refine quietW_nil ?_ | (refine run_cond (by simp; exact Gives.mk) (fun hb => ?_) (fun hb => ?_) <;> (try simp at hb)) | fail)
  · (refine run_leave hc (by simp; exact Gives.mk) ?_)
    have h3 : 300 < l.length := by omega
    simp [checkClaims, h3]
  have hcc : checkClaims n l = if clmFrom l 0 = true then 1 else if n < 0 ∨ 1000000000 < n then 1 else 0 := by
    unfold checkClaims; rw [if_neg (by omega)]
  refine ewp_loop (fun j : Nat => ⟨[(0, .d (int n)), (1, .d (clmSl l)), (21, .d (clmSl l)), (22, .d (int l.length)), (23, .d (int j))], []⟩) (fun j => j ≤ l.length ∧ clmFrom l 0 = clmFrom l j) (fun j => l.length - j) 0 ⟨by simp, rfl⟩ (run_keep [0, 1, 21, 22, 23] [] (by simp; exact Gives.mk) (by simp; exact Gives.mk)) ?_
  intro j ⟨hj, hs⟩
  rw [clmFrom.eq_1 l j] at hs
  repeat' (first | (first | refine ewp_seq ?_ | refine run_region hc (by simp; exact Ends.go) (by first | exact True.intro | omega | (simp; done) | (simp; omega) | (simp at *; omega)) ?_ | refine run_draw hc (by kernel_rfl) (by kernel_rfl) (by simp; exact Ends.go) (by first | exact True.intro | omega | (simp; done) | (simp; omega) | (simp at *; omega)) ?_ | refine ewp_skip ?_ | refine ewp_block ?_ | refine ewp_exit ?_ | refine ewp_label ?_ | refine thenQ_normal ?_ | refine thenQ_ret ?_ | refine thenQ_exit ?_ | refine blockQ_normal ?_ | refine blockQ_ret ?_ | refine blockQ_here ?_ | refine blockQ_there (by decide) ?_ | refine ewp_ret ?_ | refine opsW_nil ?_ | refine quietW_nil ?_ | (refine run_cond (by simp; exact Gives.mk) (fun hb => ?_) (fun hb => ?_) <;> (try simp at hb)) | fail) | (first | refine run_callW hc (by simp; exact Gives.mk) (by simp; exact Gives.mk) (by simp; exact Gives.mk) (by simp; exact Gives.mk) (by simp; exact Gives.mk) (fun _ => by first | exact within_ok _ _ _) (by simp) (by simp) ?_ | refine run_callQ hc (by simp; exact Gives.mk) (by simp; exact Gives.mk) (by simp; exact Gives.mk) (by simp; exact Gives.mk) (by simp; exact Gives.mk) (fun _ => by first | exact within_ok _ _ _) (by simp) (by simp) ?_ | refine run_ops hc (by simp; first | exact Ends.go | exact Ends.halt) (by decide) (by first | exact True.intro | omega | (simp; done) | (simp; omega) | (simp at *; omega)) ?_ | refine run_quiet hc (by simp; first | exact Ends.go | exact Ends.halt) (by decide) (by first | exact True.intro | omega | (simp; done) | (simp; omega) | (simp at *; omega)) ?_ | refine run_regionW hc (by simp; exact Ends.halt) (by first | exact True.intro | omega | (simp; done) | (simp; omega) | (simp at *; omega)) ?_ | refine run_drawW hc (by kernel_rfl) (by kernel_rfl) (by simp; exact Ends.halt) (by first | exact True.intro | omega | (simp; done) | (simp; omega) | (simp at *; omega)) ?_ | fail))
  · (refine run_leave hc (by simp; exact Gives.mk) ?_)
    have e : checkClaims n l = 1 := by rw [hcc, hs]; (repeat' split) <;> (first | rfl | (exfalso; omega) | (exfalso; simp_all; done) | grind)
    simp [e]
  · refine ⟨j + 1, ⟨by omega, ?_⟩, by omega, run_back [0, 1, 21, 22, 23] [] (by simp; exact Gives.mk) (by simp; exact Gives.mk) (by simp)⟩
    rw [hs, if_pos (by assumption), if_neg (by omega)]
  · (refine run_leave hc (by simp; exact Gives.mk) ?_)
    have e : checkClaims n l = 1 := by rw [hcc, hs]; (repeat' split) <;> (first | rfl | (exfalso; omega) | (exfalso; simp_all; done) | grind)
    simp [e]
  have hc0 : clmFrom l 0 = false := by rw [hs, if_neg (by omega)]
  have hok := clmFrom_range l 0 hc0
  have hn0 : 0 ≤ n ∧ n ≤ 1000000000 := hb
  have hl3 : l.length ≤ 300 := by omega
  have e0 : checkClaims n l = 0 := by rw [hcc, hc0, if_neg (by simp), if_neg (by omega)]
  have hfit0 : Fits l (List.replicate l.length 0) := ⟨by simp, hl3, fun i hi => hok i (by omega) hi, fun i hi => by have := hok i (by omega) hi; simp [hi] at this ⊢; omega⟩
  simp only [e0, ne_eq, not_true_eq_false, if_false]
  clear hs hcc hb hok hc0
  refine ewp_loop (fun x : List Int × Int => ⟨[(0, .d (int x.2)), (1, .d (clmSl l)), (8, .os 43 x.1.length)], [(43, .own 3 1 (true, [int 0]) (x.1.map encI))]⟩) (fun x => Fits l x.1 ∧ 0 ≤ x.2 ∧ x.2 ≤ 1000000000 ∧ sharesF l (List.replicate l.length 0) n = sharesF l x.1 x.2) (fun x => x.2.toNat) (List.replicate l.length 0, n) ⟨hfit0, hn0.1, hn0.2, rfl⟩ (run_keep [0, 1, 8] [43] (by simp; exact Gives.mk) (by simp; exact Gives.mk)) ?_
  rintro ⟨out, m⟩ ⟨hf, hm0, hm1, hs⟩
  simp only at hf hm0 hm1 hs ⊢
  have hlen := hf.len
  have hwb := wFrom_bd hf 0 (by omega)
  repeat' (first | refine ewp_seq ?_ | refine run_region hc (by simp; exact Ends.go) (by first | exact True.intro | omega | (simp; done) | (simp; omega) | (simp at *; omega)) ?_ | refine run_draw hc (by kernel_rfl) (by kernel_rfl) (by simp; exact Ends.go) (by first | exact True.intro | omega | (simp; done) | (simp; omega) | (simp at *; omega)) ?_ | refine ewp_skip ?_ | refine ewp_block ?_ | refine ewp_exit ?_ | refine ewp_label ?_ | refine thenQ_normal ?_ | refine thenQ_ret ?_ | refine thenQ_exit ?_ | refine blockQ_normal ?_ | refine blockQ_ret ?_ | refine blockQ_here ?_ | refine blockQ_there (by decide) ?_ | refine ewp_ret ?_ | refine opsW_nil ?_ | refine quietW_nil ?_ | (refine run_cond (by simp; exact Gives.mk) (fun hb => ?_) (fun hb => ?_) <;> (try simp at hb)) | fail)
  -- the weight
  · refine ewp_loop (fun x : Nat × Int => ⟨[(0, .d (int m)), (1, .d (clmSl l)), (8, .os 43 out.length), (9, .d (int x.2)), (46, .d (clmSl l)), (47, .d (int l.length)), (48, .d (int x.1))], [(43, .own 3 1 (true, [int 0]) (out.map encI))]⟩) (fun x => x.1 ≤ l.length ∧ 0 ≤ x.2 ∧ x.2 ≤ 1000000 * (x.1 : Int) ∧ wFrom l out 0 = x.2 + wFrom l out x.1) (fun x => l.length - x.1) (0, 0) ⟨by simp, by simp, by simp, by simp⟩ (run_keep [0, 1, 8, 9, 46, 47, 48] [43] (by simp; exact Gives.mk) (by simp; exact Gives.mk)) ?_
    rintro ⟨i, wt⟩ ⟨hi, hw0, hw1, hws⟩
    simp only at hi hw0 hw1 hws ⊢
    rw [wFrom.eq_1 l out i] at hws
    have hok := hf.ok i
    repeat' (first | refine ewp_seq ?_ | refine run_region hc (by simp; exact Ends.go) (by first | exact True.intro | omega | (simp; done) | (simp; omega) | (simp at *; omega)) ?_ | refine run_draw hc (by kernel_rfl) (by kernel_rfl) (by simp; exact Ends.go) (by first | exact True.intro | omega | (simp; done) | (simp; omega) | (simp at *; omega)) ?_ | refine ewp_skip ?_ | refine ewp_block ?_ | refine ewp_exit ?_ | refine ewp_label ?_ | refine thenQ_normal ?_ | refine thenQ_ret ?_ | refine thenQ_exit ?_ | refine blockQ_normal ?_ | refine blockQ_ret ?_ | refine blockQ_here ?_ | refine blockQ_there (by decide) ?_ | refine ewp_ret ?_ | refine opsW_nil ?_ | refine quietW_nil ?_ | (refine run_cond (by simp; exact Gives.mk) (fun hb => ?_) (fun hb => ?_) <;> (try simp at hb)) | fail)
    · refine ⟨(i + 1, wt + (l[i]?.getD (0, 0)).1), ⟨by simp; omega, by simp; omega, by simp; omega, ?_⟩, by simp; omega, run_back [0, 1, 8, 9, 46, 47, 48] [43] (by simp; exact Gives.mk) (by simp; exact Gives.mk) (by simp)⟩
      simp only
      rw [hws]; (repeat' split) <;> (first | rfl | (exfalso; omega) | (exfalso; simp_all; done) | grind)
    · refine ⟨(i + 1, wt), ⟨by simp; omega, by simp; omega, by simp; omega, ?_⟩, by simp; omega, run_back [0, 1, 8, 9, 46, 47, 48] [43] (by simp; exact Gives.mk) (by simp; exact Gives.mk) (by simp)⟩
      simp only
      rw [hws]; (repeat' split) <;> (first | rfl | (exfalso; omega) | (exfalso; simp_all; done) | grind)
    · -- no weight is left
      have hw : wFrom l out 0 = 0 := by rw [hws, if_neg (by omega)]; omega
      (refine run_leave hc (by simp; exact Gives.mk) ?_)
      rw [hs, sharesF, dif_pos (by omega), if_pos hw]
      simp
    have hw : wFrom l out 0 = wt := by rw [hws, if_neg (by omega)]; omega
    have hwt : 1 ≤ wt := by omega
    rw [sharesF.eq_1 l out m] at hs
    rw [dif_pos (by omega), if_neg (by omega)] at hs
    clear hws hok hw0 hw1 hwb
    refine ewp_loop (fun x : Nat × List Int × Int => ⟨[(0, .d (int x.2.2)), (1, .d (clmSl l)), (8, .os 43 x.2.1.length), (9, .d (int wt)), (12, .d (int m)), (68, .d (clmSl l)), (69, .d (int l.length)), (70, .d (int x.1))], [(43, .own 3 1 (true, [int 0]) (x.2.1.map encI))]⟩)
      (fun x => x.1 ≤ l.length ∧ Fits l x.2.1 ∧ 0 ≤ x.2.2 ∧ x.2.2 ≤ m ∧ (x.2.2 = m → x.2.1 = out) ∧ (m - x.2.2) * wt + m * wFrom l x.2.1 x.1 ≤ m * wt ∧ giveFrom l m wt 0 out m = giveFrom l m wt x.1 x.2.1 x.2.2) (fun x => l.length - x.1) (0, out, m) ⟨by simp, hf, hm0, by simp, fun _ => rfl, by simp [hw], rfl⟩ (run_keep [0, 1, 8, 9, 12, 68, 69, 70] [43] (by simp; exact Gives.mk) (by simp; exact Gives.mk)) ?_
    rintro ⟨i2, out2, m2⟩ ⟨hi2, hf2, hm20, hm21, hsame, hle2, hgs⟩
    simp only at hi2 hf2 hm20 hm21 hsame hle2 hgs ⊢
    have hlen2 := hf2.len
    have hok2 := hf2.ok i2
    have hat2 := hf2.at_ i2
    have hgk : i2 < l.length → 0 ≤ (m * (l[i2]?.getD (0, 0)).1).tdiv wt ∧ (m * (l[i2]?.getD (0, 0)).1).tdiv wt * wt ≤ m * (l[i2]?.getD (0, 0)).1 := fun h => give_k hm0 (hok2 h).1 hwt
    have hgm : i2 < l.length → 0 ≤ m * (l[i2]?.getD (0, 0)).1 ∧ m * (l[i2]?.getD (0, 0)).1 ≤ 1000000000 * 1000000 := fun h => ⟨Int.mul_nonneg hm0 (by have := hok2 h; omega), Int.mul_le_mul hm1 (hok2 h).2.1 (by have := hok2 h; omega) (by omega)⟩
    have hgt : i2 < l.length → (m * (l[i2]?.getD (0, 0)).1).tdiv wt ≤ m * (l[i2]?.getD (0, 0)).1 := fun h => (tdiv_bd _ _ (hgm h).1 hwt).2
    rw [giveFrom.eq_1 l m wt i2 out2 m2] at hgs
    rw [wFrom.eq_1 l out2 i2] at hle2
    repeat' (first | refine ewp_seq ?_ | refine run_region hc (by simp; exact Ends.go) (by first | exact True.intro | omega | (simp; done) | (simp; omega) | (simp at *; omega)) ?_ | refine run_draw hc (by kernel_rfl) (by kernel_rfl) (by simp; exact Ends.go) (by first | exact True.intro | omega | (simp; done) | (simp; omega) | (simp at *; omega)) ?_ | refine ewp_skip ?_ | refine ewp_block ?_ | refine ewp_exit ?_ | refine ewp_label ?_ | refine thenQ_normal ?_ | refine thenQ_ret ?_ | refine thenQ_exit ?_ | refine blockQ_normal ?_ | refine blockQ_ret ?_ | refine blockQ_here ?_ | refine blockQ_there (by decide) ?_ | refine ewp_ret ?_ | refine opsW_nil ?_ | refine quietW_nil ?_ | (refine run_cond (by simp; exact Gives.mk) (fun hb => ?_) (fun hb => ?_) <;> (try simp at hb)) | fail)
    · have hi2' : i2 < l.length := by omega
      have ho2 : out2[i2]?.getD 0 < (l[i2]?.getD (0, 0)).2 := hb
      obtain ⟨hk0, hk1, hk2⟩ := give_take (most := (l[i2]?.getD (0, 0)).2) (o := out2[i2]?.getD 0) hm0 (hok2 hi2').1 hwt hb
      rw [if_pos hi2', if_pos ho2] at hgs hle2
      simp only at hgs
      generalize hk : (if (l[i2]?.getD (0, 0)).2 - out2[i2]?.getD 0 < (m * (l[i2]?.getD (0, 0)).1).tdiv wt then (l[i2]?.getD (0, 0)).2 - out2[i2]?.getD 0 else (m * (l[i2]?.getD (0, 0)).1).tdiv wt) = k at hgs hk0 hk1 hk2
      have hv := (wFrom_bd hf2 (i2 + 1) (by omega)).1
      obtain ⟨hg1, hg2⟩ := give_left (n := m2) hwt hm0 hv hle2 hk2
      have hat := hat2 hi2'
      refine ⟨(i2 + 1, out2.set i2 (out2[i2]?.getD 0 + k), m2 - k), ⟨by simp; omega, hf2.put (by omega) (by omega), hg2, by simp; omega, ?_, ?_, hgs⟩, by simp; omega, run_back [0, 1, 8, 9, 12, 68, 69, 70] [43] (by simp; exact Gives.mk) (by simp; exact Gives.mk) (by simp [hk])⟩
      · simp only
        intro he
        obtain rfl : k = 0 := by omega
        rw [Int.add_zero, set_same]
        exact hsame (by omega)
      simp only
      rw [wFrom_set _ _ _ (by omega)]
      exact hg1
    · have hi2' : i2 < l.length := by omega
      rw [if_pos hi2', if_neg (by omega)] at hgs hle2
      refine ⟨(i2 + 1, out2, m2), ⟨by simp; omega, hf2, hm20, hm21, hsame, ?_, hgs⟩, by simp; omega, run_back [0, 1, 8, 9, 12, 68, 69, 70] [43] (by simp; exact Gives.mk) (by simp; exact Gives.mk) (by simp)⟩
      simp only
      rw [Int.zero_add] at hle2
      exact hle2
    all_goals rw [if_neg (by omega)] at hgs
    -- something was given out: the next round
    · have hr : roundF l out m = (out2, m2) := by
        unfold roundF
        rw [hw, hgs, if_pos (by simpa using hb)]
      rw [hr, dif_pos (by simpa using hb)] at hs
      exact ⟨(out2, m2), ⟨hf2, hm20, by simp; omega, hs⟩, by simp; omega, run_back [0, 1, 8] [43] (by simp; exact Gives.mk) (by simp; exact Gives.mk) (by simp)⟩
    have hr0 : roundF l out m = oneFrom l 0 out2 m2 := by
      unfold roundF
      rw [hw, hgs, if_neg (by simp; omega)]
    obtain rfl : m2 = m := by omega
    obtain rfl := hsame rfl
    clear hle2 hgs hok2 hat2 hgk hgm hgt
    refine ewp_loop (fun x : Nat × List Int × Int => ⟨[(0, .d (int x.2.2)), (1, .d (clmSl l)), (8, .os 43 x.2.1.length), (112, .d (clmSl l)), (113, .d (int l.length)), (114, .d (int x.1))], [(43, .own 3 1 (true, [int 0]) (x.2.1.map encI))]⟩)
      (fun x => x.1 ≤ l.length ∧ Fits l x.2.1 ∧ 0 ≤ x.2.2 ∧ x.2.2 ≤ m2 ∧ (x.2.2 < m2 ∨ 0 < wFrom l x.2.1 x.1) ∧ oneFrom l 0 out2 m2 = oneFrom l x.1 x.2.1 x.2.2) (fun x => l.length - x.1) (0, out2, m2) ⟨by simp, hf2, hm20, by simp, by simp only; omega, rfl⟩ (run_keep [0, 1, 8, 112, 113, 114] [43] (by simp; exact Gives.mk) (by simp; exact Gives.mk)) ?_
    rintro ⟨i3, out3, m3⟩ ⟨hi3, hf3, hm30, hm31, hor, hgs⟩
    simp only at hi3 hf3 hm30 hm31 hor hgs ⊢
    have hlen3 := hf3.len
    have hok3 := hf3.ok i3
    have hat3 := hf3.at_ i3
    rw [oneFrom.eq_1 l i3 out3 m3] at hgs
    rw [wFrom.eq_1 l out3 i3] at hor
    repeat' (first | refine ewp_seq ?_ | refine run_region hc (by simp; exact Ends.go) (by first | exact True.intro | omega | (simp; done) | (simp; omega) | (simp at *; omega)) ?_ | refine run_draw hc (by kernel_rfl) (by kernel_rfl) (by simp; exact Ends.go) (by first | exact True.intro | omega | (simp; done) | (simp; omega) | (simp at *; omega)) ?_ | refine ewp_skip ?_ | refine ewp_block ?_ | refine ewp_exit ?_ | refine ewp_label ?_ | refine thenQ_normal ?_ | refine thenQ_ret ?_ | refine thenQ_exit ?_ | refine blockQ_normal ?_ | refine blockQ_ret ?_ | refine blockQ_here ?_ | refine blockQ_there (by decide) ?_ | refine ewp_ret ?_ | refine opsW_nil ?_ | refine quietW_nil ?_ | (refine run_cond (by simp; exact Gives.mk) (fun hb => ?_) (fun hb => ?_) <;> (try simp at hb)) | fail)
    · have hi3' : i3 < l.length := by omega
      have hat := hat3 hi3'
      rw [if_pos hi3', if_pos (by omega)] at hgs
      exact ⟨(i3 + 1, out3.set i3 (out3[i3]?.getD 0 + 1), m3 - 1), ⟨by simp; omega, hf3.put (by omega) (by omega), by simp; omega, by simp; omega, by simp; omega, hgs⟩, by simp; omega, run_back [0, 1, 8, 112, 113, 114] [43] (by simp; exact Gives.mk) (by simp; exact Gives.mk) (by simp)⟩
    · have hi3' : i3 < l.length := by omega
      rw [if_pos hi3', if_neg (by omega)] at hgs
      refine ⟨(i3 + 1, out3, m3), ⟨by simp; omega, hf3, hm30, hm31, ?_, hgs⟩, by simp; omega, run_back [0, 1, 8, 112, 113, 114] [43] (by simp; exact Gives.mk) (by simp; exact Gives.mk) (by simp)⟩
      simp only
      rw [if_pos hi3'] at hor
      split at hor <;> omega
    · rw [if_neg (by omega)] at hgs hor
      rw [hr0, hgs, dif_pos (by simp; omega)] at hs
      exact ⟨(out3, m3), ⟨hf3, hm30, by simp; omega, hs⟩, by simp; omega, run_back [0, 1, 8] [43] (by simp; exact Gives.mk) (by simp; exact Gives.mk) (by simp)⟩
  all_goals (refine run_leave hc (by simp; exact Gives.mk) ?_)
  rw [hs, sharesF, dif_neg (by omega)]
  simp
end Go.Proofs.Ytgflkcfghmncmaa
