/-
  FRONTIER: the reference's Take. (WITH run_drawN.)
-/
import Derived.Test.YtnainpghpjelcaaGreatDoorTkG
import Derived.Test.YtnainpghpjelcaaGreatDoorFnG
import Derived.Test.YtnainpghpjelcaaGreatDoorTkB
import Derived.Test.YtnainpghpjelcaaGreatDoorFnT
import Derived.Test.YtnainpghpjelcaaGreatDoorFmB
import Derived.Test.YtnainpghpjelcaaGreatDoorPermR
import Derived.Test.YtnainpghpjelcaaGreatDoorLwGh
set_option linter.unusedSimpArgs false
set_option linter.unusedVariables false
namespace Go.Proofs.YtnainpghpjelcaaGreatDoor
open Go.Lw Go.RowKit
set_option maxRecDepth 100000
set_option maxHeartbeats 8000000

theorem stK_next (l : List Int) (lo : Int) {j : Nat} (hj : j < l.length) : stK (l.take (j + 1)) lo = if lo < l[j]?.getD 0 then stK (l.take j) lo ++ [l[j]?.getD 0] else stK (l.take j) lo := by
  unfold stK
  rw [takeI_next _ hj]
  by_cases h : lo < l[j]?.getD 0
  · rw [if_pos h, if_pos (by simpa using h)]
  · rw [if_neg h, if_neg (by simpa using h), List.append_nil]
theorem set_hcells0 (H : List Hst) (k : Nat) (x : Hst) : (H.map hstCells).set k (hstCells x) = (H.set k x).map hstCells := by rw [List.map_set]
theorem insHQ_ok (H : List Hst) (s : Bs) (t : Int) (z2 : List D) (p : Nat) (hp : p ≤ H.length) (hl : H.length ≤ 300) :
    FnMem Tryz.prog 109 [.os 50001 H.length, .d (int p), .os 50002 1] [(50001, .own 92 4 (true, [str [], int 0, tru false, noSt]) (H.map hstCells)), (50002, .own 92 4 (true, z2) [[str s, int 0, tru true, intSl ([] ++ [t])]])]
      (.os 50001 (H.length + 1)) [(50001, .own 92 4 (true, [str [], int 0, tru false, noSt]) ((H.take p ++ tkN s t :: H.drop p).map hstCells))] := by
  have h := insH_ok (H.map hstCells) [str s, int 0, tru true, intSl ([] ++ [t])] p [str [], int 0, tru false, noSt] z2 (by simp) (by simp) (by simpa using hp) (by simp; omega)
  have e : (H.take p ++ tkN s t :: H.drop p).map hstCells = (H.map hstCells).take p ++ [str s, int 0, tru true, intSl ([] ++ [t])] :: (H.map hstCells).drop p := by
    simp
  rw [e]
  simpa using h
theorem qTakeM_ok (f : Frt) (t : Int) (hf : FrOk f) (h0 : atE f t = 0) (h1 : 0 ≤ takeN f t) : FnOk Tryz.prog 45 [frD f, int t] (takeD f t) := by
  refine fnOk Tryz.func45 rfl (by kernel_rfl) Tryz.ntmps45 _ rfl (by simp) fun C hc => ?_
  obtain ⟨hg, ht⟩ := atE_good h0
  have hA := qAskAt_ok f t hf
  have hN := qNext_ok f t hg ht
  rw [rdy_same f t hg ht] at hN
  rw [h0] at hA
  obtain ⟨hi, hr⟩ : (takeN f t).toNat < f.items.length ∧ rdyP f t (wntAt f.items (takeN f t).toNat) = true := by
    rcases takeN_spec f t with h | h
    · omega
    · exact h.2
  have hE : takeE f t = if hThere f (tkS f t) = true then (if late8 (hstAt f.hosts (hLb f (tkS f t))).2.2.2 t = true then 8 else 0) else if 300 ≤ f.hosts.length then 16 else 0 := by
    unfold takeE
    rw [if_neg (fun e => e h0), if_neg (by omega)]
  have hp : hLb f (tkS f t) ≤ f.hosts.length := (lbB_spec (nameAt f.hosts) f.hosts.length (tkS f t)).1
  have hbl : ∀ j, j < hLb f (tkS f t) → Op.bytesLess (nameAt f.hosts j) (tkS f t) = true := (lbB_spec (nameAt f.hosts) f.hosts.length (tkS f t)).2.1
  have hge : hLb f (tkS f t) < f.hosts.length → Op.bytesLess (nameAt f.hosts (hLb f (tkS f t))) (tkS f t) = false := (lbB_spec (nameAt f.hosts) f.hosts.length (tkS f t)).2.2
  have hlt := fun h => (there_is (f := f) (s := tkS f t) h).1
  have hwk := wnt_key (hg.wnt _ hi)
  have hFor := qHostFor_ok f (tkW f t).1 hg hwk.1
  have hhf : hostFor f (tkW f t).1 = if hThere f (tkS f t) = true then hstAt f.hosts (hLb f (tkS f t)) else (tkS f t, 0, false, []) := rfl
  have hnm : hThere f (tkS f t) = true → (hstAt f.hosts (hLb f (tkS f t))).1 = tkS f t := fun h => (there_is (f := f) (s := tkS f t) h).2
  have hsm := hostFor_small f (tkW f t).1 hg
  have hix := qHostIdx_ok f (tkS f t) hg.hosts hg.names
  have hcs : hIdx f.hosts (tkS f t) = if hThere f (tkS f t) = true then (hLb f (tkS f t) : Int) else -1 := by
    rcases hIdx_cases f.hosts (tkS f t) with h | ⟨j, e1, e2, e3, e4⟩
    · rw [if_neg (fun e => ?_), h]
      obtain ⟨p1, p2⟩ := there_is (f := f) (s := tkS f t) e
      have := hIdx_is (H := f.hosts) (s := tkS f t) hg.names (j := hLb f (tkS f t)) p1 p2
      omega
    · rw [if_pos (show hThere f (tkS f t) = true from e4), e1, e3]
  have hO := copied_ok f hg.items hg.hosts
  obtain ⟨i, hin⟩ : ∃ i : Nat, takeN f t = i := ⟨(takeN f t).toNat, by omega⟩
  have hw := hg.window
  have hil := hg.items
  have hhl := hg.hosts
  have hsts := fun j hj => hg.starts j hj
  unfold takeD
  rw [hE]
  have eI : (takeF f t).items = f.items.eraseIdx i := by show f.items.eraseIdx (takeN f t).toNat = _; rw [hin]; rfl
  have eH : (takeF f t).hosts = if hThere f (tkS f t) = true then f.hosts.set (hLb f (tkS f t)) (tkX (hstAt f.hosts (hLb f (tkS f t))) (t - f.window) t) else f.hosts.take (hLb f (tkS f t)) ++ tkN (tkS f t) t :: f.hosts.drop (hLb f (tkS f t)) := rfl
  have eW : tkW f t = wntAt f.items i := by unfold tkW; rw [hin]; rfl
  change FnOk _ _ _ (int (takeN f t)) at hN
  rw [hin] at hN
  have hdel := deleteW_ok f.items i (by omega) hg.items
  have hfd : frD (takeF f t) = .agg [wntSl (takeF f t).items, hstSl (takeF f t).hosts, int f.budget, int f.window] := rfl
  rw [hfd, eI, eH, eW]
  rw [eW] at hFor hhf hsm
  unfold owV at hO
  have hi' : i < f.items.length := by omega
  have hasc := fun j (hj : j < f.hosts.length) => hsts j hj
  clear hfd eI eH eW h0 h1 hE hr hi hwk hg hsts
  generalize hostFor f (wntAt f.items i).1 = x at *
  generalize tkS f t = s at *
  generalize hThere f s = th at *
  generalize hLb f s = k at *
  rw [hcs] at hix
  clear hcs
  obtain ⟨I, H, bu, wi⟩ := f
  simp only at *
  obtain ⟨x1, x2, x3, l⟩ := x
  simp only at hsm
  have hlx : late8 l t = (decide (0 < l.length) && decide (t < l[l.length - 1]?.getD 0)) := rfl
  unfold okM at ht
  -- the starts of the host: the fault, or what is left of them
  have hcase : (th = true ∧ hstAt H k = (x1, x2, x3, l) ∧ x1 = s ∧ k < H.length) ∨ (th = false ∧ x1 = s ∧ x2 = 0 ∧ l = []) := by
    cases th with
    | true =>
      rw [if_pos rfl] at hhf
      have := hnm rfl
      rw [← hhf] at this
      exact .inl ⟨rfl, hhf.symm, this, hlt rfl⟩
    | false =>
      rw [if_neg (by decide)] at hhf
      simp only [Prod.mk.injEq] at hhf
      exact .inr ⟨rfl, hhf.1, hhf.2.1, hhf.2.2.2⟩
  by_cases hl8 : late8 l t = true
  · have e8 : (if th = true then if late8 (hstAt H k).2.2.2 t = true then 8 else 0 else if 300 ≤ H.length then 16 else 0) = 8 := by
      rcases hcase with ⟨h1, h2, _⟩ | ⟨_, _, _, h4⟩
      · rw [if_pos h1, h2, if_pos hl8]
      · subst h4; cases hl8
    rw [e8, if_pos (by decide)]
    rw [hlx] at hl8
    simp only [Bool.and_eq_true, decide_eq_true_eq] at hl8
    repeat' (first | (first | refine Ya ?_ | refine Yb ?_ | refine Yc ?_ | refine Yd ?_ | refine Ye ?_ | refine Yf ?_ | refine Yg ?_ | refine Yh ?_ | refine Yi ?_ | refine Yj ?_ | refine Yk ?_ | refine Yl ?_ | refine Ym ?_ | refine Yn ?_ | refine Yo ?_ | refine Yp (h := ?_) | refine Yq ?_ | refine Yr ?_ | refine Ys ?_ | refine Zr hc (hk := ?_) | refine Zd hc (hk := ?_) | (refine Zc (ht := fun hb => ?_) (hf := fun hb => ?_) <;> (try simp at hb)) | fail) | (first | refine Zw hc (hf := by first | exact hA | exact hN | exact hFor) (hk := ?_) | refine Zq hc (hf := by first | exact hA | exact hN | exact hFor) (hk := ?_) | refine Zo hc (hk := ?_) | refine Zu hc (hk := ?_) | refine Ze hc (hk := ?_) | fail) | ((first | refine run_callM ([(40001, 40001), (40002, 40002)]) (hO) hc (by simp; exact Gives.mk) (by simp; exact Gives.mk) (by simp; exact Gives.mk) (by simp; exact Gives.mk) (by simp; exact Gives.mk) rfl (by simp; exact Gives.mk) (by simp; exact Gives.mk) rfl (by simp) (by simp) (by simp; exact Gives.mk) (by simp; exact Gives.mk) ?_ | fail)))
    all_goals try contradiction
    all_goals try (exfalso; omega)
    (refine Zl hc (hr := ?_))
    simp [frNo]
  have e8 : (if th = true then if late8 (hstAt H k).2.2.2 t = true then 8 else 0 else if 300 ≤ H.length then 16 else 0) = if th = true then 0 else if 300 ≤ H.length then 16 else 0 := by
    rcases hcase with ⟨h1, h2, _⟩ | ⟨h1, _, _, h4⟩
    · rw [if_pos h1, if_pos h1, h2, if_neg hl8]
    · subst h1; rfl
  rw [e8]
  rw [hlx] at hl8
  simp only [Bool.and_eq_true, decide_eq_true_eq, not_and] at hl8
  repeat' (first | (first | refine Ya ?_ | refine Yb ?_ | refine Yc ?_ | refine Yd ?_ | refine Ye ?_ | refine Yf ?_ | refine Yg ?_ | refine Yh ?_ | refine Yi ?_ | refine Yj ?_ | refine Yk ?_ | refine Yl ?_ | refine Ym ?_ | refine Yn ?_ | refine Yo ?_ | refine Yp (h := ?_) | refine Yq ?_ | refine Yr ?_ | refine Ys ?_ | refine Zr hc (hk := ?_) | refine Zd hc (hk := ?_) | (refine Zc (ht := fun hb => ?_) (hf := fun hb => ?_) <;> (try simp at hb)) | fail) | (first | refine Zw hc (hf := by first | exact hA | exact hN | exact hFor) (hk := ?_) | refine Zq hc (hf := by first | exact hA | exact hN | exact hFor) (hk := ?_) | refine Zo hc (hk := ?_) | refine Zu hc (hk := ?_) | refine Ze hc (hk := ?_) | fail) | ((first | refine run_callM ([(40001, 40001), (40002, 40002)]) (hO) hc (by simp; exact Gives.mk) (by simp; exact Gives.mk) (by simp; exact Gives.mk) (by simp; exact Gives.mk) (by simp; exact Gives.mk) rfl (by simp; exact Gives.mk) (by simp; exact Gives.mk) rfl (by simp) (by simp) (by simp; exact Gives.mk) (by simp; exact Gives.mk) ?_ | fail)))
  all_goals try contradiction
  all_goals try (exfalso; omega)
  clear hA hN hFor hO
  refine ewp_loop (fun j : Nat => ⟨[(1, .d (int t)), (2, .bp 2 0), (4, .bp 4 0), (5, .bp 5 0), (8, .d (int i)), (9, .bp 9 0), (10, .bp 10 0), (11, .bp 11 0), (13, .os 40003 (stK (l.take j) (t - wi)).length), (62, .d (intSl l)), (63, .d (int l.length)), (64, .d (int j))],
      [(2, .box 25 [.d (wntSl I), .d (hstSl H), .d (int bu), .d (int wi)]), (4, .box 25 [.d (.lit (.slice none 0 0)), .d (.lit (.slice none 0 0)), .d (int 0), .d (int 0)]), (5, .box 35 [.d (str []), .d (int 0), .d (int 0)]),
       (9, .box 25 [.os 40001 I.length, .os 40002 H.length, .d (int bu), .d (int wi)]), (10, .box 35 [.d (str (wntAt I i).1), .d (int (wntAt I i).2.1), .d (int (wntAt I i).2.2)]), (11, .box 92 [.d (str x1), .d (int x2), .d (tru x3), .d (intSl l)]),
       owW I, owH H, (40003, .own 3 1 (true, [int 0]) ((stK (l.take j) (t - wi)).map fun y => [int y]))]⟩)
    (fun j => j ≤ l.length) (fun j => l.length - j) 0 (Nat.zero_le _) (run_keepB [(13, none, 40003, 3, [int 0])] [1, 2, 4, 5, 8, 9, 10, 11, 13, 62, 63, 64] [2, 4, 5, 9, 10, 11, 40001, 40002, 40003] (by simp; exact Gives.mk) (by simp; exact Gives.mk) (by simp; exact Gives.mk)) ?_
  intro j hj
  have hKj : (stK (l.take j) (t - wi)).length ≤ 200 := Nat.le_trans (List.length_filter_le _ _) (by rw [List.length_take]; omega)
  by_cases hjl : j < l.length
  · have hnx := stK_next l (t - wi) hjl
    generalize stK (l.take j) (t - wi) = K at hKj hnx ⊢
    repeat' (first | (first | refine Ya ?_ | refine Yb ?_ | refine Yc ?_ | refine Yd ?_ | refine Ye ?_ | refine Yf ?_ | refine Yg ?_ | refine Yh ?_ | refine Yi ?_ | refine Yj ?_ | refine Yk ?_ | refine Yl ?_ | refine Ym ?_ | refine Yn ?_ | refine Yo ?_ | refine Yp (h := ?_) | refine Yq ?_ | refine Yr ?_ | refine Ys ?_ | refine Zr hc (hk := ?_) | refine Zd hc (hk := ?_) | (refine Zc (ht := fun hb => ?_) (hf := fun hb => ?_) <;> (try simp at hb)) | fail) | (first | refine Zo hc (hk := ?_) | refine Zu hc (hk := ?_) | refine Ze hc (hk := ?_) | fail))
    all_goals try contradiction
    all_goals try (exfalso; omega)
    · rw [if_pos (by omega)] at hnx
      exact ⟨j + 1, by omega, by omega, run_back [1, 2, 4, 5, 8, 9, 10, 11, 13, 62, 63, 64] [2, 4, 5, 9, 10, 11, 40001, 40002, 40003] (by simp; exact Gives.mk) (by simp; exact Gives.mk) (by simp [hnx])⟩
    · rw [if_neg (by omega)] at hnx
      exact ⟨j + 1, by omega, by omega, run_back [1, 2, 4, 5, 8, 9, 10, 11, 13, 62, 63, 64] [2, 4, 5, 9, 10, 11, 40001, 40002, 40003] (by simp; exact Gives.mk) (by simp; exact Gives.mk) (by simp [hnx])⟩
  obtain rfl : j = l.length := by omega
  rw [List.take_length] at hKj ⊢
  have hstL : stL l (t - wi) t = stK l (t - wi) ++ [t] := rfl
  generalize hKe : stK l (t - wi) = K at *
  repeat' (first | (first | refine Ya ?_ | refine Yb ?_ | refine Yc ?_ | refine Yd ?_ | refine Ye ?_ | refine Yf ?_ | refine Yg ?_ | refine Yh ?_ | refine Yi ?_ | refine Yj ?_ | refine Yk ?_ | refine Yl ?_ | refine Ym ?_ | refine Yn ?_ | refine Yo ?_ | refine Yp (h := ?_) | refine Yq ?_ | refine Yr ?_ | refine Ys ?_ | refine Zr hc (hk := ?_) | refine Zd hc (hk := ?_) | (refine Zc (ht := fun hb => ?_) (hf := fun hb => ?_) <;> (try simp at hb)) | fail) | (first | refine Zo hc (hk := ?_) | refine Zu hc (hk := ?_) | refine Ze hc (hk := ?_) | fail))
  all_goals try contradiction
  all_goals try (exfalso; omega)
  (first | refine run_sealW 40003 hc (by simp; exact Gives.mk) (by simp) ?_ | refine run_seal 40003 hc (by simp; exact Gives.mk) (by simp) ?_)
  have eS : (D.sl (K.length + 1) fun i => (List.map (fun y => [int y]) K ++ [[int t]])[i]?.getD [int 0]) = intSl (K ++ [t]) := by
    have e : (fun i : Nat => (List.map (fun y => [int y]) K ++ [[int t]])[i]?.getD [int 0]) = fun i : Nat => [int ((K ++ [t])[i]?.getD 0)] := by
      funext i
      rw [show List.map (fun y => [int y]) K ++ [[int t]] = (K ++ [t]).map (fun y => [int y]) by simp, List.getElem?_map]
      exact row_i _
    rw [e]
    simp [intSl]
  rw [eS]
  have hEl : (I.eraseIdx i).length = I.length - 1 := by rw [List.length_eraseIdx, if_pos hi']
  rw [← hEl] at hdel
  generalize hEE : I.eraseIdx i = E at *
  have e1 := del_cells E 1
  simp only [List.replicate_succ, List.replicate_zero] at e1
  rcases hcase with ⟨rfl, hx, rfl, hk⟩ | ⟨rfl, rfl, rfl, rfl⟩
  · -- the host is there
    rw [if_pos rfl] at hix
    rw [if_pos rfl, if_neg (show ¬ (0 : Nat) ≠ 0 by decide), if_pos rfl]
    have eX : tkX (hstAt H k) (t - wi) t = (x1, x2, true, K ++ [t]) := by rw [hx]; show (x1, x2, true, stL l (t - wi) t) = _; rw [hstL]
    rw [eX]
    have hset := set_hcells0 H k (x1, x2, true, K ++ [t])
    repeat' (first | (first | refine Ya ?_ | refine Yb ?_ | refine Yc ?_ | refine Yd ?_ | refine Ye ?_ | refine Yf ?_ | refine Yg ?_ | refine Yh ?_ | refine Yi ?_ | refine Yj ?_ | refine Yk ?_ | refine Yl ?_ | refine Ym ?_ | refine Yn ?_ | refine Yo ?_ | refine Yp (h := ?_) | refine Yq ?_ | refine Yr ?_ | refine Ys ?_ | refine Zr hc (hk := ?_) | refine Zd hc (hk := ?_) | (refine Zc (ht := fun hb => ?_) (hf := fun hb => ?_) <;> (try simp at hb)) | fail) | ((first | refine run_callM ([(50001, 40001)]) (hdel) hc (by simp; exact Gives.mk) (by simp; exact Gives.mk) (by simp; exact Gives.mk) (by simp; exact Gives.mk) (by simp; exact Gives.mk) rfl (by simp; exact Gives.mk) (by simp; exact Gives.mk) rfl (by simp) (by simp) (by simp; exact Gives.mk) (by simp; exact Gives.mk) ?_ | fail)) | (first | refine Zw hc (hf := by exact hix) (hk := ?_) | refine Zq hc (hf := by exact hix) (hk := ?_) | refine Zo hc (hk := ?_) | refine Zu hc (hk := ?_) | refine Ze hc (hk := ?_) | fail))
    all_goals try contradiction
    all_goals try (exfalso; omega)
    have hset : (H.map hstCells).set k [str x1, int x2, D.lit (Value.bool true), intSl (K ++ [t])] = (H.set k (x1, x2, true, K ++ [t])).map hstCells := set_hcells0 H k (x1, x2, true, K ++ [t])
    rw [hset]
    have hXl : (H.set k (x1, x2, true, K ++ [t])).length = H.length := List.length_set
    rw [← hXl]
    generalize H.set k (x1, x2, true, K ++ [t]) = X at *
    refine ewp_le (run_keep [4, 5, 9, 10] [4, 5, 9, 10, 40001, 40002] (by simp; exact Gives.mk) (by simp; exact Gives.mk)) ?_
    (apply run_drawAny 5 hc (by kernel_rfl) rfl; (focus (refine anyW_all [0, 1] (by kernel_rfl) rfl ?_; refine ⟨?_, ?_⟩; (focus (refine run_stepW hc rfl (by simp; exact Ends.go) (by first | exact True.intro | omega | (simp; done) | (simp; omega) | (simp at *; omega)) ?q250; refine anyW_all [1, 2] (by kernel_rfl) rfl ?nq250; refine ⟨?_, ?_⟩; (focus (refine run_stepW hc rfl (by simp; exact Ends.go) (by first | exact True.intro | omega | (simp; done) | (simp; omega) | (simp at *; omega)) ?q251; refine anyW_all [2] (by kernel_rfl) rfl ?nq251; (focus (refine run_stepW hc rfl (by simp; exact Ends.go) (by first | exact True.intro | omega | (simp; done) | (simp; omega) | (simp at *; omega)) ?q252; refine anyW_all [3] (by kernel_rfl) rfl ?nq252; (focus (refine run_stepW hc rfl (by simp; exact Ends.go) (by first | exact True.intro | omega | (simp; done) | (simp; omega) | (simp at *; omega)) ?q253; refine run_anyM 4 hc rfl (by kernel_rfl) rfl (by first | exact .inl rfl | exact .inr rfl) (by simp; exact Gives.mk) (by simp) (by simp; exact Gives.mk) ?nq253; refine anyW_done (by kernel_rfl) ?_; exact run_keep [4, 5, 6] [4, 5, 40001, 40002] (by simp; try exact Gives.mk) (by simp; try exact Gives.mk))))))); (focus (refine run_stepW hc rfl (by simp; exact Ends.go) (by first | exact True.intro | omega | (simp; done) | (simp; omega) | (simp at *; omega)) ?q254; refine anyW_all [1] (by kernel_rfl) rfl ?nq254; (focus (refine run_stepW hc rfl (by simp; exact Ends.go) (by first | exact True.intro | omega | (simp; done) | (simp; omega) | (simp at *; omega)) ?_; exact anyW_le (run_back [4, 5, 9, 10, 103, 104] [4, 5, 9, 10, 40001, 40002] (by simp; exact Gives.mk) (by simp; exact Gives.mk) (by simp)) ?q252)))))); (focus (refine run_stepW hc rfl (by simp; exact Ends.go) (by first | exact True.intro | omega | (simp; done) | (simp; omega) | (simp at *; omega)) ?q255; refine anyW_all [0] (by kernel_rfl) rfl ?nq255; (focus (refine run_stepW hc rfl (by simp; exact Ends.go) (by first | exact True.intro | omega | (simp; done) | (simp; omega) | (simp at *; omega)) ?_; exact anyW_le (run_back [4, 5, 9, 10, 103, 104] [4, 5, 9, 10, 40001, 40002] (by simp; exact Gives.mk) (by simp; exact Gives.mk) (by simp)) ?q251)))))))
    repeat' (first | (first | refine Ya ?_ | refine Yb ?_ | refine Yc ?_ | refine Yd ?_ | refine Ye ?_ | refine Yf ?_ | refine Yg ?_ | refine Yh ?_ | refine Yi ?_ | refine Yj ?_ | refine Yk ?_ | refine Yl ?_ | refine Ym ?_ | refine Yn ?_ | refine Yo ?_ | refine Yp (h := ?_) | refine Yq ?_ | refine Yr ?_ | refine Ys ?_ | refine Zr hc (hk := ?_) | refine Zd hc (hk := ?_) | (refine Zc (ht := fun hb => ?_) (hf := fun hb => ?_) <;> (try simp at hb)) | fail) | (first | refine Zo hc (hk := ?_) | refine Zu hc (hk := ?_) | refine Ze hc (hk := ?_) | fail))
    all_goals try contradiction
    have e2 : (fun i => (X.map hstCells)[i]?.getD [str [], int 0, tru false, intSl []]) = fun i => [str (hstAt X i).1, int (hstAt X i).2.1, tru (hstAt X i).2.2.1, intSl (hstAt X i).2.2.2] := by funext i; rw [List.getElem?_map, row_h]
    (refine Zl hc (hr := ?_))
    simp [e1, e2]
  · rw [if_neg (show ¬ false = true by decide)] at hix
    rw [if_neg (show ¬ false = true by decide), if_neg (show ¬ false = true by decide)]
    have hK0 : K = [] := by rw [← hKe]; rfl
    subst hK0
    by_cases hfull : 300 ≤ H.length
    · rw [if_pos hfull, if_pos (show (16 : Nat) ≠ 0 by decide)]
      repeat' (first | (first | refine Ya ?_ | refine Yb ?_ | refine Yc ?_ | refine Yd ?_ | refine Ye ?_ | refine Yf ?_ | refine Yg ?_ | refine Yh ?_ | refine Yi ?_ | refine Yj ?_ | refine Yk ?_ | refine Yl ?_ | refine Ym ?_ | refine Yn ?_ | refine Yo ?_ | refine Yp (h := ?_) | refine Yq ?_ | refine Yr ?_ | refine Ys ?_ | refine Zr hc (hk := ?_) | refine Zd hc (hk := ?_) | (refine Zc (ht := fun hb => ?_) (hf := fun hb => ?_) <;> (try simp at hb)) | fail) | ((first | refine run_callM ([(50001, 40001)]) (hdel) hc (by simp; exact Gives.mk) (by simp; exact Gives.mk) (by simp; exact Gives.mk) (by simp; exact Gives.mk) (by simp; exact Gives.mk) rfl (by simp; exact Gives.mk) (by simp; exact Gives.mk) rfl (by simp) (by simp) (by simp; exact Gives.mk) (by simp; exact Gives.mk) ?_ | fail)) | (first | refine Zw hc (hf := by exact hix) (hk := ?_) | refine Zq hc (hf := by exact hix) (hk := ?_) | refine Zo hc (hk := ?_) | refine Zu hc (hk := ?_) | refine Ze hc (hk := ?_) | fail))
      all_goals try contradiction
      all_goals try (exfalso; omega)
      (refine Zl hc (hr := ?_))
      simp [frNo]
    rw [if_neg hfull, if_neg (show ¬ (0 : Nat) ≠ 0 by decide)]
    repeat' (first | (first | refine Ya ?_ | refine Yb ?_ | refine Yc ?_ | refine Yd ?_ | refine Ye ?_ | refine Yf ?_ | refine Yg ?_ | refine Yh ?_ | refine Yi ?_ | refine Yj ?_ | refine Yk ?_ | refine Yl ?_ | refine Ym ?_ | refine Yn ?_ | refine Yo ?_ | refine Yp (h := ?_) | refine Yq ?_ | refine Yr ?_ | refine Ys ?_ | refine Zr hc (hk := ?_) | refine Zd hc (hk := ?_) | (refine Zc (ht := fun hb => ?_) (hf := fun hb => ?_) <;> (try simp at hb)) | fail) | ((first | refine run_callM ([(50001, 40001)]) (hdel) hc (by simp; exact Gives.mk) (by simp; exact Gives.mk) (by simp; exact Gives.mk) (by simp; exact Gives.mk) (by simp; exact Gives.mk) rfl (by simp; exact Gives.mk) (by simp; exact Gives.mk) rfl (by simp) (by simp) (by simp; exact Gives.mk) (by simp; exact Gives.mk) ?_ | fail)) | (first | refine Zw hc (hf := by exact hix) (hk := ?_) | refine Zq hc (hf := by exact hix) (hk := ?_) | refine Zo hc (hk := ?_) | refine Zu hc (hk := ?_) | refine Ze hc (hk := ?_) | fail))
    all_goals try contradiction
    all_goals try (exfalso; omega)
    refine ewp_loop (fun j : Nat => ⟨[(4, .bp 4 0), (5, .bp 5 0), (9, .bp 9 0), (10, .bp 10 0), (11, .bp 11 0), (17, .d (int j))],
      [(4, .box 25 [.d (.lit (.slice none 0 0)), .d (.lit (.slice none 0 0)), .d (int 0), .d (int 0)]), (5, .box 35 [.d (str []), .d (int 0), .d (int 0)]),
       (9, .box 25 [.os 40001 E.length, .os 40002 H.length, .d (int bu), .d (int wi)]), (10, .box 35 [.d (str (wntAt I i).1), .d (int (wntAt I i).2.1), .d (int (wntAt I i).2.2)]), (11, .box 92 [.d (str x1), .d (int 0), .d (tru true), .d (intSl ([] ++ [t]))]),
       (40001, .own 35 3 (true, noWnt) (E.map wntCells ++ [noWnt])), owH H]⟩)
      (fun j => j ≤ k) (fun j => k - j) 0 (Nat.zero_le _) (run_keep [4, 5, 9, 10, 11, 17] [4, 5, 9, 10, 11, 40001, 40002] (by simp; exact Gives.mk) (by simp; exact Gives.mk)) ?_
    intro j hj
    rcases Nat.lt_or_ge j k with hjk | hjk
    · have hl1 := hbl j hjk
      have hl2 : j < H.length := by omega
      simp only [nameAt, hstAt] at hl1
      repeat' (first | (first | refine ewp_seq ?_ | refine run_region hc (by simp [hl1]; exact Ends.go) (by first | exact True.intro | omega | assumption | (simp; done) | (simp; omega) | (simp at *; omega)) ?_ | refine run_draw hc (by kernel_rfl) (by kernel_rfl) (by simp [hl1]; exact Ends.go) (by first | exact True.intro | omega | assumption | (simp; done) | (simp; omega) | (simp at *; omega)) ?_ | refine ewp_scope ?_ | refine scopeQ_normal ?_ | refine scopeQ_ret ?_ | refine scopeQ_exit ?_ | refine ewp_skip ?_ | refine ewp_block ?_ | refine ewp_exit ?_ | refine ewp_label ?_ | refine thenQ_normal ?_ | refine thenQ_ret ?_ | refine thenQ_exit ?_ | refine blockQ_normal ?_ | refine blockQ_ret ?_ | refine blockQ_here ?_ | refine blockQ_there (by decide) ?_ | refine ewp_ret ?_ | refine opsW_nil ?_ | refine quietW_nil ?_ | (refine run_cond (by simp [hl1]; exact Gives.mk) (fun hb => ?_) (fun hb => ?_) <;> (try simp at hb)) | fail) | (first | refine run_callW hc (by simp [hl1]; exact Gives.mk) (by simp [hl1]; exact Gives.mk) (by simp [hl1]; exact Gives.mk) (by simp [hl1]; exact Gives.mk) (by simp [hl1]; exact Gives.mk) (fun _ => by first | exact trivial) (by simp) (by simp) ?_ | refine run_callQ hc (by simp [hl1]; exact Gives.mk) (by simp [hl1]; exact Gives.mk) (by simp [hl1]; exact Gives.mk) (by simp [hl1]; exact Gives.mk) (by simp [hl1]; exact Gives.mk) (fun _ => by first | exact trivial) (by simp) (by simp) ?_ | refine run_ops hc (by simp [hl1]; first | exact Ends.go | exact Ends.halt) (by decide) (by first | exact True.intro | omega | assumption | (simp; done) | (simp; omega) | (simp at *; omega)) ?_ | refine run_quiet hc (by simp [hl1]; first | exact Ends.go | exact Ends.halt) (by decide) (by first | exact True.intro | omega | assumption | (simp; done) | (simp; omega) | (simp at *; omega)) ?_ | refine run_regionW hc (by simp [hl1]; exact Ends.halt) (by first | exact True.intro | omega | assumption | (simp; done) | (simp; omega) | (simp at *; omega)) ?_ | refine run_drawN hc (by kernel_rfl) (by decide) (by kernel_rfl) (by simp [hl1]; exact Ends.halt) (by first | exact True.intro | omega | assumption | (simp; done) | (simp; omega) | (simp at *; omega)) ?_ | fail))
      all_goals try contradiction
      all_goals try (exfalso; omega)
      exact ⟨j + 1, by omega, by omega, run_back [4, 5, 9, 10, 11, 17] [4, 5, 9, 10, 11, 40001, 40002] (by simp; exact Gives.mk) (by simp; exact Gives.mk) (by simp)⟩
    obtain rfl : j = k := by omega
    have hstop : j < H.length → Op.bytesLess (H[j]?.getD hst0).1 x1 = false := hge
    have hIn := insHQ_ok H x1 t [str [], int 0, tru false, D.lit (.slice none 0 0)] j hp hhl
    have hXl : (H.take j ++ tkN x1 t :: H.drop j).length = H.length + 1 := by simp; omega
    rw [← hXl] at hIn
    generalize H.take j ++ tkN x1 t :: H.drop j = X at *
    have e2 : (fun i => (X.map hstCells)[i]?.getD [str [], int 0, tru false, intSl []]) = fun i => [str (hstAt X i).1, int (hstAt X i).2.1, tru (hstAt X i).2.2.1, intSl (hstAt X i).2.2.2] := by funext i; rw [List.getElem?_map, row_h]
    rcases Nat.lt_or_ge j H.length with hjl | hjl
    · have hs1 := hstop hjl
      repeat' (first | (first | refine ewp_seq ?_ | refine run_region hc (by simp [hs1]; exact Ends.go) (by first | exact True.intro | omega | assumption | (simp; done) | (simp; omega) | (simp at *; omega)) ?_ | refine run_draw hc (by kernel_rfl) (by kernel_rfl) (by simp [hs1]; exact Ends.go) (by first | exact True.intro | omega | assumption | (simp; done) | (simp; omega) | (simp at *; omega)) ?_ | refine ewp_scope ?_ | refine scopeQ_normal ?_ | refine scopeQ_ret ?_ | refine scopeQ_exit ?_ | refine ewp_skip ?_ | refine ewp_block ?_ | refine ewp_exit ?_ | refine ewp_label ?_ | refine thenQ_normal ?_ | refine thenQ_ret ?_ | refine thenQ_exit ?_ | refine blockQ_normal ?_ | refine blockQ_ret ?_ | refine blockQ_here ?_ | refine blockQ_there (by decide) ?_ | refine ewp_ret ?_ | refine opsW_nil ?_ | refine quietW_nil ?_ | (refine run_cond (by simp [hs1]; exact Gives.mk) (fun hb => ?_) (fun hb => ?_) <;> (try simp at hb)) | fail) | ((first | refine run_callM ([(50001, 40002), (50002, 133)]) (hIn) hc (by simp [hs1]; exact Gives.mk) (by simp [hs1]; exact Gives.mk) (by simp [hs1]; exact Gives.mk) (by simp [hs1]; exact Gives.mk) (by simp [hs1]; exact Gives.mk) rfl (by simp [hs1]; exact Gives.mk) (by simp [hs1]; exact Gives.mk) rfl (by simp) (by simp) (by simp [hs1]; exact Gives.mk) (by simp [hs1]; exact Gives.mk) ?_ | fail)) | (first | refine run_callW hc (by simp [hs1]; exact Gives.mk) (by simp [hs1]; exact Gives.mk) (by simp [hs1]; exact Gives.mk) (by simp [hs1]; exact Gives.mk) (by simp [hs1]; exact Gives.mk) (fun _ => by first | exact trivial) (by simp) (by simp) ?_ | refine run_callQ hc (by simp [hs1]; exact Gives.mk) (by simp [hs1]; exact Gives.mk) (by simp [hs1]; exact Gives.mk) (by simp [hs1]; exact Gives.mk) (by simp [hs1]; exact Gives.mk) (fun _ => by first | exact trivial) (by simp) (by simp) ?_ | refine run_ops hc (by simp [hs1]; first | exact Ends.go | exact Ends.halt) (by decide) (by first | exact True.intro | omega | assumption | (simp; done) | (simp; omega) | (simp at *; omega)) ?_ | refine run_quiet hc (by simp [hs1]; first | exact Ends.go | exact Ends.halt) (by decide) (by first | exact True.intro | omega | assumption | (simp; done) | (simp; omega) | (simp at *; omega)) ?_ | refine run_regionW hc (by simp [hs1]; exact Ends.halt) (by first | exact True.intro | omega | assumption | (simp; done) | (simp; omega) | (simp at *; omega)) ?_ | fail) | (refine Zn hc (hk := ?_)) | fail)
      all_goals try contradiction
      all_goals try (exfalso; omega)
      refine ewp_le (run_keep [4, 5, 9, 10] [4, 5, 9, 10, 40001, 40002] (by simp; exact Gives.mk) (by simp; exact Gives.mk)) ?_
      (apply run_drawAny 5 hc (by kernel_rfl) rfl; (focus (refine anyW_all [0, 1] (by kernel_rfl) rfl ?_; refine ⟨?_, ?_⟩; (focus (refine run_stepW hc rfl (by simp; exact Ends.go) (by first | exact True.intro | omega | (simp; done) | (simp; omega) | (simp at *; omega)) ?qb320; refine anyW_all [1, 2] (by kernel_rfl) rfl ?nqb320; refine ⟨?_, ?_⟩; (focus (refine run_stepW hc rfl (by simp; exact Ends.go) (by first | exact True.intro | omega | (simp; done) | (simp; omega) | (simp at *; omega)) ?qb321; refine anyW_all [2] (by kernel_rfl) rfl ?nqb321; (focus (refine run_stepW hc rfl (by simp; exact Ends.go) (by first | exact True.intro | omega | (simp; done) | (simp; omega) | (simp at *; omega)) ?qb322; refine anyW_all [3] (by kernel_rfl) rfl ?nqb322; (focus (refine run_stepW hc rfl (by simp; exact Ends.go) (by first | exact True.intro | omega | (simp; done) | (simp; omega) | (simp at *; omega)) ?qb323; refine run_anyM 4 hc rfl (by kernel_rfl) rfl (by first | exact .inl rfl | exact .inr rfl) (by simp; exact Gives.mk) (by simp) (by simp; exact Gives.mk) ?nqb323; refine anyW_done (by kernel_rfl) ?_; exact run_keep [4, 5, 6] [4, 5, 40001, 40002] (by simp; try exact Gives.mk) (by simp; try exact Gives.mk))))))); (focus (refine run_stepW hc rfl (by simp; exact Ends.go) (by first | exact True.intro | omega | (simp; done) | (simp; omega) | (simp at *; omega)) ?qb324; refine anyW_all [1] (by kernel_rfl) rfl ?nqb324; (focus (refine run_stepW hc rfl (by simp; exact Ends.go) (by first | exact True.intro | omega | (simp; done) | (simp; omega) | (simp at *; omega)) ?_; exact anyW_le (run_back [4, 5, 9, 10, 136, 137] [4, 5, 9, 10, 40001, 40002] (by simp; exact Gives.mk) (by simp; exact Gives.mk) (by simp)) ?qb322)))))); (focus (refine run_stepW hc rfl (by simp; exact Ends.go) (by first | exact True.intro | omega | (simp; done) | (simp; omega) | (simp at *; omega)) ?qb325; refine anyW_all [0] (by kernel_rfl) rfl ?nqb325; (focus (refine run_stepW hc rfl (by simp; exact Ends.go) (by first | exact True.intro | omega | (simp; done) | (simp; omega) | (simp at *; omega)) ?_; exact anyW_le (run_back [4, 5, 9, 10, 136, 137] [4, 5, 9, 10, 40001, 40002] (by simp; exact Gives.mk) (by simp; exact Gives.mk) (by simp)) ?qb321)))))))
      repeat' (first | (first | refine Ya ?_ | refine Yb ?_ | refine Yc ?_ | refine Yd ?_ | refine Ye ?_ | refine Yf ?_ | refine Yg ?_ | refine Yh ?_ | refine Yi ?_ | refine Yj ?_ | refine Yk ?_ | refine Yl ?_ | refine Ym ?_ | refine Yn ?_ | refine Yo ?_ | refine Yp (h := ?_) | refine Yq ?_ | refine Yr ?_ | refine Ys ?_ | refine Zr hc (hk := ?_) | refine Zd hc (hk := ?_) | (refine Zc (ht := fun hb => ?_) (hf := fun hb => ?_) <;> (try simp at hb)) | fail) | (first | refine Zo hc (hk := ?_) | refine Zu hc (hk := ?_) | refine Ze hc (hk := ?_) | fail))
      all_goals try contradiction
      (refine Zl hc (hr := ?_))
      simp [e1, e2]
    · have hs1 : ¬ j < H.length := by omega
      repeat' (first | (first | refine ewp_seq ?_ | refine run_region hc (by simp [hs1]; exact Ends.go) (by first | exact True.intro | omega | assumption | (simp; done) | (simp; omega) | (simp at *; omega)) ?_ | refine run_draw hc (by kernel_rfl) (by kernel_rfl) (by simp [hs1]; exact Ends.go) (by first | exact True.intro | omega | assumption | (simp; done) | (simp; omega) | (simp at *; omega)) ?_ | refine ewp_scope ?_ | refine scopeQ_normal ?_ | refine scopeQ_ret ?_ | refine scopeQ_exit ?_ | refine ewp_skip ?_ | refine ewp_block ?_ | refine ewp_exit ?_ | refine ewp_label ?_ | refine thenQ_normal ?_ | refine thenQ_ret ?_ | refine thenQ_exit ?_ | refine blockQ_normal ?_ | refine blockQ_ret ?_ | refine blockQ_here ?_ | refine blockQ_there (by decide) ?_ | refine ewp_ret ?_ | refine opsW_nil ?_ | refine quietW_nil ?_ | (refine run_cond (by simp [hs1]; exact Gives.mk) (fun hb => ?_) (fun hb => ?_) <;> (try simp at hb)) | fail) | ((first | refine run_callM ([(50001, 40002), (50002, 133)]) (hIn) hc (by simp [hs1]; exact Gives.mk) (by simp [hs1]; exact Gives.mk) (by simp [hs1]; exact Gives.mk) (by simp [hs1]; exact Gives.mk) (by simp [hs1]; exact Gives.mk) rfl (by simp [hs1]; exact Gives.mk) (by simp [hs1]; exact Gives.mk) rfl (by simp) (by simp) (by simp [hs1]; exact Gives.mk) (by simp [hs1]; exact Gives.mk) ?_ | fail)) | (first | refine run_callW hc (by simp [hs1]; exact Gives.mk) (by simp [hs1]; exact Gives.mk) (by simp [hs1]; exact Gives.mk) (by simp [hs1]; exact Gives.mk) (by simp [hs1]; exact Gives.mk) (fun _ => by first | exact trivial) (by simp) (by simp) ?_ | refine run_callQ hc (by simp [hs1]; exact Gives.mk) (by simp [hs1]; exact Gives.mk) (by simp [hs1]; exact Gives.mk) (by simp [hs1]; exact Gives.mk) (by simp [hs1]; exact Gives.mk) (fun _ => by first | exact trivial) (by simp) (by simp) ?_ | refine run_ops hc (by simp [hs1]; first | exact Ends.go | exact Ends.halt) (by decide) (by first | exact True.intro | omega | assumption | (simp; done) | (simp; omega) | (simp at *; omega)) ?_ | refine run_quiet hc (by simp [hs1]; first | exact Ends.go | exact Ends.halt) (by decide) (by first | exact True.intro | omega | assumption | (simp; done) | (simp; omega) | (simp at *; omega)) ?_ | refine run_regionW hc (by simp [hs1]; exact Ends.halt) (by first | exact True.intro | omega | assumption | (simp; done) | (simp; omega) | (simp at *; omega)) ?_ | fail) | (refine Zn hc (hk := ?_)) | fail)
      all_goals try contradiction
      all_goals try (exfalso; omega)
      refine ewp_le (run_keep [4, 5, 9, 10] [4, 5, 9, 10, 40001, 40002] (by simp; exact Gives.mk) (by simp; exact Gives.mk)) ?_
      (apply run_drawAny 5 hc (by kernel_rfl) rfl; (focus (refine anyW_all [0, 1] (by kernel_rfl) rfl ?_; refine ⟨?_, ?_⟩; (focus (refine run_stepW hc rfl (by simp; exact Ends.go) (by first | exact True.intro | omega | (simp; done) | (simp; omega) | (simp at *; omega)) ?qc320; refine anyW_all [1, 2] (by kernel_rfl) rfl ?nqc320; refine ⟨?_, ?_⟩; (focus (refine run_stepW hc rfl (by simp; exact Ends.go) (by first | exact True.intro | omega | (simp; done) | (simp; omega) | (simp at *; omega)) ?qc321; refine anyW_all [2] (by kernel_rfl) rfl ?nqc321; (focus (refine run_stepW hc rfl (by simp; exact Ends.go) (by first | exact True.intro | omega | (simp; done) | (simp; omega) | (simp at *; omega)) ?qc322; refine anyW_all [3] (by kernel_rfl) rfl ?nqc322; (focus (refine run_stepW hc rfl (by simp; exact Ends.go) (by first | exact True.intro | omega | (simp; done) | (simp; omega) | (simp at *; omega)) ?qc323; refine run_anyM 4 hc rfl (by kernel_rfl) rfl (by first | exact .inl rfl | exact .inr rfl) (by simp; exact Gives.mk) (by simp) (by simp; exact Gives.mk) ?nqc323; refine anyW_done (by kernel_rfl) ?_; exact run_keep [4, 5, 6] [4, 5, 40001, 40002] (by simp; try exact Gives.mk) (by simp; try exact Gives.mk))))))); (focus (refine run_stepW hc rfl (by simp; exact Ends.go) (by first | exact True.intro | omega | (simp; done) | (simp; omega) | (simp at *; omega)) ?qc324; refine anyW_all [1] (by kernel_rfl) rfl ?nqc324; (focus (refine run_stepW hc rfl (by simp; exact Ends.go) (by first | exact True.intro | omega | (simp; done) | (simp; omega) | (simp at *; omega)) ?_; exact anyW_le (run_back [4, 5, 9, 10, 136, 137] [4, 5, 9, 10, 40001, 40002] (by simp; exact Gives.mk) (by simp; exact Gives.mk) (by simp)) ?qc322)))))); (focus (refine run_stepW hc rfl (by simp; exact Ends.go) (by first | exact True.intro | omega | (simp; done) | (simp; omega) | (simp at *; omega)) ?qc325; refine anyW_all [0] (by kernel_rfl) rfl ?nqc325; (focus (refine run_stepW hc rfl (by simp; exact Ends.go) (by first | exact True.intro | omega | (simp; done) | (simp; omega) | (simp at *; omega)) ?_; exact anyW_le (run_back [4, 5, 9, 10, 136, 137] [4, 5, 9, 10, 40001, 40002] (by simp; exact Gives.mk) (by simp; exact Gives.mk) (by simp)) ?qc321)))))))
      repeat' (first | (first | refine Ya ?_ | refine Yb ?_ | refine Yc ?_ | refine Yd ?_ | refine Ye ?_ | refine Yf ?_ | refine Yg ?_ | refine Yh ?_ | refine Yi ?_ | refine Yj ?_ | refine Yk ?_ | refine Yl ?_ | refine Ym ?_ | refine Yn ?_ | refine Yo ?_ | refine Yp (h := ?_) | refine Yq ?_ | refine Yr ?_ | refine Ys ?_ | refine Zr hc (hk := ?_) | refine Zd hc (hk := ?_) | (refine Zc (ht := fun hb => ?_) (hf := fun hb => ?_) <;> (try simp at hb)) | fail) | (first | refine Zo hc (hk := ?_) | refine Zu hc (hk := ?_) | refine Ze hc (hk := ?_) | fail))
      all_goals try contradiction
      (refine Zl hc (hr := ?_))
      simp [e1, e2]
theorem qTake_ok (f : Frt) (t : Int) (hf : FrOk f) : FnOk Tryz.prog 45 [frD f, int t] (takeD f t) := by
  by_cases h0 : atE f t = 0
  · by_cases h1 : takeN f t < 0
    · have hE : takeE f t = 9 := by
        unfold takeE
        rw [if_neg (fun e => e h0), if_pos h1]
      refine fnOk Tryz.func45 rfl (by kernel_rfl) Tryz.ntmps45 _ rfl (by simp) fun C hc => ?_
      obtain ⟨hg, ht⟩ := atE_good h0
      have hA := qAskAt_ok f t hf
      have hN := qNext_ok f t hg ht
      rw [rdy_same f t hg ht] at hN
      rw [h0] at hA
      change FnOk _ _ _ (int (takeN f t)) at hN
      unfold takeD
      rw [hE, if_pos (by decide)]
      generalize takeN f t = n at h1 hN
      repeat' (first | (first | refine Ya ?_ | refine Yb ?_ | refine Yc ?_ | refine Yd ?_ | refine Ye ?_ | refine Yf ?_ | refine Yg ?_ | refine Yh ?_ | refine Yi ?_ | refine Yj ?_ | refine Yk ?_ | refine Yl ?_ | refine Ym ?_ | refine Yn ?_ | refine Yo ?_ | refine Yp (h := ?_) | refine Yq ?_ | refine Yr ?_ | refine Ys ?_ | refine Zr hc (hk := ?_) | refine Zd hc (hk := ?_) | (refine Zc (ht := fun hb => ?_) (hf := fun hb => ?_) <;> (try simp at hb)) | fail) | (first | refine Zw hc (hf := by first | exact hA | exact hN) (hk := ?_) | refine Zq hc (hf := by first | exact hA | exact hN) (hk := ?_) | refine Zo hc (hk := ?_) | refine Zu hc (hk := ?_) | refine Ze hc (hk := ?_) | fail))
      all_goals try contradiction
      all_goals try (exfalso; omega)
      (refine Zl hc (hr := ?_))
      simp [frNo]
    · exact qTakeM_ok f t hf h0 (by omega)
  · have hE : takeE f t = atE f t := by
      unfold takeE
      rw [if_pos h0]
    refine fnOk Tryz.func45 rfl (by kernel_rfl) Tryz.ntmps45 _ rfl (by simp) fun C hc => ?_
    have hA := qAskAt_ok f t hf
    unfold takeD
    rw [hE, if_pos h0]
    generalize atE f t = e at h0 hA
    repeat' (first | (first | refine Ya ?_ | refine Yb ?_ | refine Yc ?_ | refine Yd ?_ | refine Ye ?_ | refine Yf ?_ | refine Yg ?_ | refine Yh ?_ | refine Yi ?_ | refine Yj ?_ | refine Yk ?_ | refine Yl ?_ | refine Ym ?_ | refine Yn ?_ | refine Yo ?_ | refine Yp (h := ?_) | refine Yq ?_ | refine Yr ?_ | refine Ys ?_ | refine Zr hc (hk := ?_) | refine Zd hc (hk := ?_) | (refine Zc (ht := fun hb => ?_) (hf := fun hb => ?_) <;> (try simp at hb)) | fail) | (first | refine Zw hc (hf := by exact hA) (hk := ?_) | refine Zq hc (hf := by exact hA) (hk := ?_) | refine Zo hc (hk := ?_) | refine Zu hc (hk := ?_) | refine Ze hc (hk := ?_) | fail))
    all_goals try contradiction
    (refine Zl hc (hr := ?_))
    simp [frNo]
end Go.Proofs.YtnainpghpjelcaaGreatDoor
/-
  FRONTIER: Done (both sides). (WITH run_drawN.)
-/
set_option linter.unusedSimpArgs false
set_option linter.unusedVariables false
namespace Go.Proofs.YtnainpghpjelcaaGreatDoor
open Go.Lw Go.RowKit
set_option maxRecDepth 100000
set_option maxHeartbeats 8000000

theorem set_hcells (H : List Hst) (k : Nat) (x : Hst) : (fun i => ((H.map hstCells).set k (hstCells x))[i]?.getD [str [], int 0, tru false, intSl []]) = fun i => [str (hstAt (H.set k x) i).1, int (hstAt (H.set k x) i).2.1, tru (hstAt (H.set k x) i).2.2.1, intSl (hstAt (H.set k x) i).2.2.2] := by
  rw [← List.map_set]
  funext i
  rw [List.getElem?_map, row_h]
theorem frDone_ok (f : Frt) (s : Bs) (t k d : Int) (hf : FrOk f) : FnOk Tryz.prog 46 [frD f, str s, int t, int k, int d] (doneD f s t k d) := by
  refine fnOk Tryz.func46 rfl (by kernel_rfl) Tryz.ntmps46 _ rfl (by simp) fun C hc => ?_
  have hF := checkFr_ok f hf
  unfold doneD doneE
  by_cases he : frE f = 0
  rotate_left
  · rw [if_pos he, if_pos he]
    generalize frE f = e at hF he ⊢
    repeat' (first | (first | refine Ya ?_ | refine Yb ?_ | refine Yc ?_ | refine Yd ?_ | refine Ye ?_ | refine Yf ?_ | refine Yg ?_ | refine Yh ?_ | refine Yi ?_ | refine Yj ?_ | refine Yk ?_ | refine Yl ?_ | refine Ym ?_ | refine Yn ?_ | refine Yo ?_ | refine Yp (h := ?_) | refine Yq ?_ | refine Yr ?_ | refine Ys ?_ | refine Zr hc (hk := ?_) | refine Zd hc (hk := ?_) | (refine Zc (ht := fun hb => ?_) (hf := fun hb => ?_) <;> (try simp at hb)) | fail) | (first | refine Zw hc (hf := by exact hF) (hk := ?_) | refine Zq hc (hf := by exact hF) (hk := ?_) | refine Zo hc (hk := ?_) | refine Zu hc (hk := ?_) | refine Ze hc (hk := ?_) | fail))
    all_goals try contradiction
    (refine Zl hc (hr := ?_))
    simp [frNo]
  have hg := frE_good he
  have hB := find_ok f s hg.hosts hg.names
  have hlt := fun h => (there_is (f := f) (s := s) h).1
  have h1 := frMoment_ok t
  have h2 := frWithin_ok k 0 1000000
  have h3 := frWithin_ok d 0 1000000
  have hOwn := frOwn_ok f hg.items hg.hosts hg.many
  unfold owV at hOwn
  rw [he] at hF
  rw [if_neg (show ¬ frE f ≠ 0 from fun e => e he)]
  have hhl := hg.hosts
  have hil := hg.items
  change FnOk _ _ _ (.tup [int (hLb f s), tru (hThere f s)]) at hB
  unfold doneF
  clear hf hg he
  generalize hThere f s = th at *
  generalize hLb f s = j at *
  cases th with
  | false =>
    simp only [if_true, ne_eq]
    repeat' (first | (first | refine Ya ?_ | refine Yb ?_ | refine Yc ?_ | refine Yd ?_ | refine Ye ?_ | refine Yf ?_ | refine Yg ?_ | refine Yh ?_ | refine Yi ?_ | refine Yj ?_ | refine Yk ?_ | refine Yl ?_ | refine Ym ?_ | refine Yn ?_ | refine Yo ?_ | refine Yp (h := ?_) | refine Yq ?_ | refine Yr ?_ | refine Ys ?_ | refine Zr hc (hk := ?_) | refine Zd hc (hk := ?_) | (refine Zc (ht := fun hb => ?_) (hf := fun hb => ?_) <;> (try simp at hb)) | fail) | (first | refine Zw hc (hf := by first | exact hF | exact hB) (hk := ?_) | refine Zq hc (hf := by first | exact hF | exact hB) (hk := ?_) | refine Zo hc (hk := ?_) | refine Zu hc (hk := ?_) | refine Ze hc (hk := ?_) | fail))
    all_goals try contradiction
    (refine Zl hc (hr := ?_))
    simp [frNo]
  | true =>
    have hj := hlt rfl
    simp only [Bool.true_eq_false, if_false]
    obtain ⟨I, H, bu, wi⟩ := f
    simp only at *
    cases hbz : (hstAt H j).2.2.1 with
    | false =>
      simp only [if_true, ne_eq]
      repeat' (first | (first | refine Ya ?_ | refine Yb ?_ | refine Yc ?_ | refine Yd ?_ | refine Ye ?_ | refine Yf ?_ | refine Yg ?_ | refine Yh ?_ | refine Yi ?_ | refine Yj ?_ | refine Yk ?_ | refine Yl ?_ | refine Ym ?_ | refine Yn ?_ | refine Yo ?_ | refine Yp (h := ?_) | refine Yq ?_ | refine Yr ?_ | refine Ys ?_ | refine Zr hc (hk := ?_) | refine Zd hc (hk := ?_) | (refine Zc (ht := fun hb => ?_) (hf := fun hb => ?_) <;> (try simp at hb)) | fail) | (first | refine Zw hc (hf := by first | exact hF | exact hB) (hk := ?_) | refine Zq hc (hf := by first | exact hF | exact hB) (hk := ?_) | refine Zo hc (hk := ?_) | refine Zu hc (hk := ?_) | refine Ze hc (hk := ?_) | fail))
      all_goals try contradiction
      all_goals try (exfalso; simp_all; done)
      (refine Zl hc (hr := ?_))
      simp [frNo]
    | true =>
      simp only [Bool.true_eq_false, if_false]
      have ht0 : decide (okM t) = true → okM t := fun h => by simpa using h
      have hk0 : decide (0 ≤ k ∧ k ≤ 1000000) = true → 0 ≤ k ∧ k ≤ 1000000 := fun h => by simpa using h
      have hd0 : decide (0 ≤ d ∧ d ≤ 1000000) = true → 0 ≤ d ∧ d ≤ 1000000 := fun h => by simpa using h
      generalize decide (okM t) = w1 at *
      generalize decide (0 ≤ k ∧ k ≤ 1000000) = w2 at *
      generalize decide (0 ≤ d ∧ d ≤ 1000000) = w3 at *
      by_cases hw : w1 = false ∨ w2 = false ∨ w3 = false
      · rw [if_pos hw, if_pos (by decide)]
        repeat' (first | (first | refine Ya ?_ | refine Yb ?_ | refine Yc ?_ | refine Yd ?_ | refine Ye ?_ | refine Yf ?_ | refine Yg ?_ | refine Yh ?_ | refine Yi ?_ | refine Yj ?_ | refine Yk ?_ | refine Yl ?_ | refine Ym ?_ | refine Yn ?_ | refine Yo ?_ | refine Yp (h := ?_) | refine Yq ?_ | refine Yr ?_ | refine Ys ?_ | refine Zr hc (hk := ?_) | refine Zd hc (hk := ?_) | (refine Zc (ht := fun hb => ?_) (hf := fun hb => ?_) <;> (try simp at hb)) | fail) | (first | refine Zw hc (hf := by first | exact hF | exact hB | exact h1 | exact h2 | exact h3) (hk := ?_) | refine Zq hc (hf := by first | exact hF | exact hB | exact h1 | exact h2 | exact h3) (hk := ?_) | refine Zo hc (hk := ?_) | refine Zu hc (hk := ?_) | refine Ze hc (hk := ?_) | fail))
        all_goals try contradiction
        all_goals try (exfalso; simp_all; done)
        (refine Zl hc (hr := ?_))
        simp [frNo]
      · rw [if_neg hw, if_neg (by decide)]
        have q1 := ht0 (by cases w1 <;> simp_all)
        have q2 := hk0 (by cases w2 <;> simp_all)
        have q3 := hd0 (by cases w3 <;> simp_all)
        unfold okM at q1
        clear ht0 hk0 hd0 hlt
        repeat' (first | (first | refine Ya ?_ | refine Yb ?_ | refine Yc ?_ | refine Yd ?_ | refine Ye ?_ | refine Yf ?_ | refine Yg ?_ | refine Yh ?_ | refine Yi ?_ | refine Yj ?_ | refine Yk ?_ | refine Yl ?_ | refine Ym ?_ | refine Yn ?_ | refine Yo ?_ | refine Yp (h := ?_) | refine Yq ?_ | refine Yr ?_ | refine Ys ?_ | refine Zr hc (hk := ?_) | refine Zd hc (hk := ?_) | (refine Zc (ht := fun hb => ?_) (hf := fun hb => ?_) <;> (try simp at hb)) | fail) | (first | refine Zw hc (hf := by first | exact hF | exact hB | exact h1 | exact h2 | exact h3) (hk := ?_) | refine Zq hc (hf := by first | exact hF | exact hB | exact h1 | exact h2 | exact h3) (hk := ?_) | refine Zo hc (hk := ?_) | refine Zu hc (hk := ?_) | refine Ze hc (hk := ?_) | fail) | ((first | refine run_callM ([(40001, 40001), (40002, 40002)]) (hOwn) hc (by simp; exact Gives.mk) (by simp; exact Gives.mk) (by simp; exact Gives.mk) (by simp; exact Gives.mk) (by simp; exact Gives.mk) rfl (by simp; exact Gives.mk) (by simp; exact Gives.mk) rfl (by simp) (by simp) (by simp; exact Gives.mk) (by simp; exact Gives.mk) ?_ | fail)))
        all_goals try contradiction
        all_goals try (exfalso; simp_all; done)
        refine ewp_le (run_keep [2, 3, 4, 5, 10, 13] [5, 10, 40001, 40002] (by simp; exact Gives.mk) (by simp; exact Gives.mk)) ?_
        (apply Xd 18 hc; (focus (refine Xp 0 hc (hk := ?_); refine Xm 2 hc (hk := ?_); refine Xp 3 hc (hk := ?_); refine Xm 5 hc (hk := ?_); refine Xm 6 hc (hk := ?_); refine Xm 7 hc (hk := ?_); refine Xm 8 hc (hk := ?_); refine Xp 9 hc (hk := ?_); refine Xp 10 hc (hk := ?_); refine Xp 11 hc (hk := ?_); refine run_anyR 1 [1, 12, 13, 14, 15, 16, 17] hc rfl (by kernel_rfl) rfl (by simp; exact Gives.mk) (by first | exact True.intro | omega | (simp; done) | (simp; omega) | (simp at *; omega)) (by simp) (by simp; exact Gives.mk) ?_; refine Xa [4, 12] (hx := ?_); refine ⟨?_, ?_⟩; (focus (refine Xw hc (hk := ?q120); refine Xa [12] (hx := ?nq120); (focus (refine Xw hc (hk := ?q121); refine Xp 13 hc (hk := ?nq121); refine Xa [14] (hx := ?_); (focus (refine Xw hc (hk := ?q122); refine Xa [15] (hx := ?nq122); (focus (refine Xw hc (hk := ?q123); refine Xp 16 hc (hk := ?nq123); refine Xa [17] (hx := ?_); (focus (refine Xw hc (hk := ?q124); refine Xz (hk := ?nq124); exact Xk [5, 10] [5, 10, 40001, 40002])))))))))); (focus (refine Xw hc (hk := ?q125); refine Xp 13 hc (hk := ?nq125); refine Xa [4, 14] (hx := ?_); refine ⟨?_, ?_⟩; (focus (refine Xw hc (hk := ?q126); refine Xa [14] (hx := ?nq126); (focus (refine Xw hc (hk := ?_); exact Xq ?q122)))); (focus (refine Xw hc (hk := ?q127); refine run_anyR 4 [4, 15, 16, 17] hc rfl (by kernel_rfl) rfl (by simp; exact Gives.mk) (by first | exact True.intro | omega | (simp; done) | (simp; omega) | (simp at *; omega)) (by simp) (by simp; exact Gives.mk) ?nq127; refine Xa [15] (hx := ?_); (focus (refine Xw hc (hk := ?_); exact Xq ?q123)))))))))
        repeat' (first | (first | refine Ya ?_ | refine Yb ?_ | refine Yc ?_ | refine Yd ?_ | refine Ye ?_ | refine Yf ?_ | refine Yg ?_ | refine Yh ?_ | refine Yi ?_ | refine Yj ?_ | refine Yk ?_ | refine Yl ?_ | refine Ym ?_ | refine Yn ?_ | refine Yo ?_ | refine Yp (h := ?_) | refine Yq ?_ | refine Yr ?_ | refine Ys ?_ | refine Zr hc (hk := ?_) | refine Zd hc (hk := ?_) | (refine Zc (ht := fun hb => ?_) (hf := fun hb => ?_) <;> (try simp at hb)) | fail) | (first | refine Zo hc (hk := ?_) | refine Zu hc (hk := ?_) | refine Ze hc (hk := ?_) | fail))
        all_goals try contradiction
        have e := set_hcells H j ((hstAt H j).1, t + max d (4 * k), false, (hstAt H j).2.2.2)
        (refine Zl hc (hr := ?_))
        have e0 : ∀ c, ((H.map hstCells).set j c)[j]? = some c := fun c => List.getElem?_set_self (by simpa using hj)
        simp [max2_eq, frD, e0]
        exact e
theorem qDone_ok (f : Frt) (s : Bs) (t k d : Int) (hf : FrOk f) : FnOk Tryz.prog 47 [frD f, str s, int t, int k, int d] (doneD f s t k d) := by
  refine fnOk Tryz.func47 rfl (by kernel_rfl) Tryz.ntmps47 _ rfl (by simp) fun C hc => ?_
  have hF := qCheckFr_ok f hf
  unfold doneD doneE
  by_cases he : frE f = 0
  rotate_left
  · rw [if_pos he, if_pos he]
    generalize frE f = e at hF he ⊢
    repeat' (first | (first | refine Ya ?_ | refine Yb ?_ | refine Yc ?_ | refine Yd ?_ | refine Ye ?_ | refine Yf ?_ | refine Yg ?_ | refine Yh ?_ | refine Yi ?_ | refine Yj ?_ | refine Yk ?_ | refine Yl ?_ | refine Ym ?_ | refine Yn ?_ | refine Yo ?_ | refine Yp (h := ?_) | refine Yq ?_ | refine Yr ?_ | refine Ys ?_ | refine Zr hc (hk := ?_) | refine Zd hc (hk := ?_) | (refine Zc (ht := fun hb => ?_) (hf := fun hb => ?_) <;> (try simp at hb)) | fail) | (first | refine Zw hc (hf := by exact hF) (hk := ?_) | refine Zq hc (hf := by exact hF) (hk := ?_) | refine Zo hc (hk := ?_) | refine Zu hc (hk := ?_) | refine Ze hc (hk := ?_) | fail))
    all_goals try contradiction
    (refine Zl hc (hr := ?_))
    simp [frNo]
  have hg := frE_good he
  have hB := qHostIdx_ok f s hg.hosts hg.names
  have hix := fun (j : Nat) (hj : j < f.hosts.length) (he : nameAt f.hosts j = s) => hIdx_is (H := f.hosts) (s := s) hg.names (j := j) hj he
  have hlt := fun h => (there_is (f := f) (s := s) h).1
  have h1 := qFrWithin_ok t 0 253402300799
  have h2 := qFrWithin_ok k 0 1000000
  have h3 := qFrWithin_ok d 0 1000000
  have hOwn := copied_ok f hg.items hg.hosts
  unfold owV at hOwn
  rw [he] at hF
  rw [if_neg (show ¬ frE f ≠ 0 from fun e => e he)]
  have hhl := hg.hosts
  have hil := hg.items
  have hcs : (hThere f s = false ∧ hIdx f.hosts s = -1) ∨ (hThere f s = true ∧ hIdx f.hosts s = (hLb f s : Int)) := by
    rcases hIdx_cases f.hosts s with h | ⟨j, e1, e2, e3, e4⟩
    · refine .inl ⟨Bool.eq_false_iff.2 fun e => ?_, h⟩
      obtain ⟨p1, p2⟩ := there_is (f := f) (s := s) e
      have := hix _ p1 p2
      omega
    · exact .inr ⟨e4, by rw [e1, e3]⟩
  unfold doneF
  clear hf hg he hix
  generalize hThere f s = th at *
  generalize hLb f s = j at *
  rcases hcs with ⟨rfl, hix⟩ | ⟨rfl, hix⟩
  · rw [hix] at hB
    simp only [if_true, ne_eq]
    repeat' (first | (first | refine Ya ?_ | refine Yb ?_ | refine Yc ?_ | refine Yd ?_ | refine Ye ?_ | refine Yf ?_ | refine Yg ?_ | refine Yh ?_ | refine Yi ?_ | refine Yj ?_ | refine Yk ?_ | refine Yl ?_ | refine Ym ?_ | refine Yn ?_ | refine Yo ?_ | refine Yp (h := ?_) | refine Yq ?_ | refine Yr ?_ | refine Ys ?_ | refine Zr hc (hk := ?_) | refine Zd hc (hk := ?_) | (refine Zc (ht := fun hb => ?_) (hf := fun hb => ?_) <;> (try simp at hb)) | fail) | (first | refine Zw hc (hf := by first | exact hF | exact hB) (hk := ?_) | refine Zq hc (hf := by first | exact hF | exact hB) (hk := ?_) | refine Zo hc (hk := ?_) | refine Zu hc (hk := ?_) | refine Ze hc (hk := ?_) | fail))
    all_goals try contradiction
    (refine Zl hc (hr := ?_))
    simp [frNo]
  · rw [hix] at hB
    have hj := hlt rfl
    simp only [Bool.true_eq_false, if_false]
    obtain ⟨I, H, bu, wi⟩ := f
    simp only at *
    cases hbz : (hstAt H j).2.2.1 with
    | false =>
      simp only [if_true, ne_eq]
      repeat' (first | (first | refine Ya ?_ | refine Yb ?_ | refine Yc ?_ | refine Yd ?_ | refine Ye ?_ | refine Yf ?_ | refine Yg ?_ | refine Yh ?_ | refine Yi ?_ | refine Yj ?_ | refine Yk ?_ | refine Yl ?_ | refine Ym ?_ | refine Yn ?_ | refine Yo ?_ | refine Yp (h := ?_) | refine Yq ?_ | refine Yr ?_ | refine Ys ?_ | refine Zr hc (hk := ?_) | refine Zd hc (hk := ?_) | (refine Zc (ht := fun hb => ?_) (hf := fun hb => ?_) <;> (try simp at hb)) | fail) | (first | refine Zw hc (hf := by first | exact hF | exact hB) (hk := ?_) | refine Zq hc (hf := by first | exact hF | exact hB) (hk := ?_) | refine Zo hc (hk := ?_) | refine Zu hc (hk := ?_) | refine Ze hc (hk := ?_) | fail))
      all_goals try contradiction
      all_goals try (exfalso; omega)
      all_goals try (exfalso; simp_all; done)
      (refine Zl hc (hr := ?_))
      simp [frNo]
    | true =>
      simp only [Bool.true_eq_false, if_false]
      have ht0 : decide (0 ≤ t ∧ t ≤ 253402300799) = true → 0 ≤ t ∧ t ≤ 253402300799 := fun h => by simpa using h
      have hk0 : decide (0 ≤ k ∧ k ≤ 1000000) = true → 0 ≤ k ∧ k ≤ 1000000 := fun h => by simpa using h
      have hd0 : decide (0 ≤ d ∧ d ≤ 1000000) = true → 0 ≤ d ∧ d ≤ 1000000 := fun h => by simpa using h
      have e1 : decide (okM t) = decide (0 ≤ t ∧ t ≤ 253402300799) := rfl
      rw [e1]
      clear e1
      generalize decide (0 ≤ t ∧ t ≤ 253402300799) = w1 at *
      generalize decide (0 ≤ k ∧ k ≤ 1000000) = w2 at *
      generalize decide (0 ≤ d ∧ d ≤ 1000000) = w3 at *
      by_cases hw : w1 = false ∨ w2 = false ∨ w3 = false
      · rw [if_pos hw, if_pos (by decide)]
        repeat' (first | (first | refine Ya ?_ | refine Yb ?_ | refine Yc ?_ | refine Yd ?_ | refine Ye ?_ | refine Yf ?_ | refine Yg ?_ | refine Yh ?_ | refine Yi ?_ | refine Yj ?_ | refine Yk ?_ | refine Yl ?_ | refine Ym ?_ | refine Yn ?_ | refine Yo ?_ | refine Yp (h := ?_) | refine Yq ?_ | refine Yr ?_ | refine Ys ?_ | refine Zr hc (hk := ?_) | refine Zd hc (hk := ?_) | (refine Zc (ht := fun hb => ?_) (hf := fun hb => ?_) <;> (try simp at hb)) | fail) | (first | refine Zw hc (hf := by first | exact hF | exact hB | exact h1 | exact h2 | exact h3) (hk := ?_) | refine Zq hc (hf := by first | exact hF | exact hB | exact h1 | exact h2 | exact h3) (hk := ?_) | refine Zo hc (hk := ?_) | refine Zu hc (hk := ?_) | refine Ze hc (hk := ?_) | fail))
        all_goals try contradiction
        all_goals try (exfalso; omega)
        all_goals try (exfalso; simp_all; done)
        (refine Zl hc (hr := ?_))
        simp [frNo]
      · rw [if_neg hw, if_neg (by decide)]
        have q1 := ht0 (by cases w1 <;> simp_all)
        have q2 := hk0 (by cases w2 <;> simp_all)
        have q3 := hd0 (by cases w3 <;> simp_all)
        clear ht0 hk0 hd0 hlt
        repeat' (first | (first | refine Ya ?_ | refine Yb ?_ | refine Yc ?_ | refine Yd ?_ | refine Ye ?_ | refine Yf ?_ | refine Yg ?_ | refine Yh ?_ | refine Yi ?_ | refine Yj ?_ | refine Yk ?_ | refine Yl ?_ | refine Ym ?_ | refine Yn ?_ | refine Yo ?_ | refine Yp (h := ?_) | refine Yq ?_ | refine Yr ?_ | refine Ys ?_ | refine Zr hc (hk := ?_) | refine Zd hc (hk := ?_) | (refine Zc (ht := fun hb => ?_) (hf := fun hb => ?_) <;> (try simp at hb)) | fail) | (first | refine Zw hc (hf := by first | exact hF | exact hB | exact h1 | exact h2 | exact h3) (hk := ?_) | refine Zq hc (hf := by first | exact hF | exact hB | exact h1 | exact h2 | exact h3) (hk := ?_) | refine Zo hc (hk := ?_) | refine Zu hc (hk := ?_) | refine Ze hc (hk := ?_) | fail) | ((first | refine run_callM ([(40001, 40001), (40002, 40002)]) (hOwn) hc (by simp; exact Gives.mk) (by simp; exact Gives.mk) (by simp; exact Gives.mk) (by simp; exact Gives.mk) (by simp; exact Gives.mk) rfl (by simp; exact Gives.mk) (by simp; exact Gives.mk) rfl (by simp) (by simp) (by simp; exact Gives.mk) (by simp; exact Gives.mk) ?_ | fail)))
        all_goals try contradiction
        all_goals try (exfalso; omega)
        all_goals try (exfalso; simp_all; done)
        refine ewp_le (run_keep [2, 3, 4, 10, 13, 14] [10, 14, 40001, 40002] (by simp; exact Gives.mk) (by simp; exact Gives.mk)) ?_
        (apply Xd 18 hc; (focus (refine Xp 0 hc (hk := ?_); refine Xm 2 hc (hk := ?_); refine Xp 3 hc (hk := ?_); refine Xm 5 hc (hk := ?_); refine Xm 6 hc (hk := ?_); refine Xm 7 hc (hk := ?_); refine Xm 8 hc (hk := ?_); refine Xp 9 hc (hk := ?_); refine Xp 10 hc (hk := ?_); refine Xp 11 hc (hk := ?_); refine run_anyR 1 [1, 12, 13, 14, 15, 16, 17] hc rfl (by kernel_rfl) rfl (by simp; exact Gives.mk) (by first | exact True.intro | omega | (simp; done) | (simp; omega) | (simp at *; omega)) (by simp) (by simp; exact Gives.mk) ?_; refine Xa [4, 12] (hx := ?_); refine ⟨?_, ?_⟩; (focus (refine Xw hc (hk := ?q120); refine Xa [12] (hx := ?nq120); (focus (refine Xw hc (hk := ?q121); refine Xp 13 hc (hk := ?nq121); refine Xa [14] (hx := ?_); (focus (refine Xw hc (hk := ?q122); refine Xa [15] (hx := ?nq122); (focus (refine Xw hc (hk := ?q123); refine Xp 16 hc (hk := ?nq123); refine Xa [17] (hx := ?_); (focus (refine Xw hc (hk := ?q124); refine Xz (hk := ?nq124); exact Xk [10, 14] [10, 14, 40001, 40002])))))))))); (focus (refine Xw hc (hk := ?q125); refine Xp 13 hc (hk := ?nq125); refine Xa [4, 14] (hx := ?_); refine ⟨?_, ?_⟩; (focus (refine Xw hc (hk := ?q126); refine Xa [14] (hx := ?nq126); (focus (refine Xw hc (hk := ?_); exact Xq ?q122)))); (focus (refine Xw hc (hk := ?q127); refine run_anyR 4 [4, 15, 16, 17] hc rfl (by kernel_rfl) rfl (by simp; exact Gives.mk) (by first | exact True.intro | omega | (simp; done) | (simp; omega) | (simp at *; omega)) (by simp) (by simp; exact Gives.mk) ?nq127; refine Xa [15] (hx := ?_); (focus (refine Xw hc (hk := ?_); exact Xq ?q123)))))))))
        repeat' (first | (first | refine Ya ?_ | refine Yb ?_ | refine Yc ?_ | refine Yd ?_ | refine Ye ?_ | refine Yf ?_ | refine Yg ?_ | refine Yh ?_ | refine Yi ?_ | refine Yj ?_ | refine Yk ?_ | refine Yl ?_ | refine Ym ?_ | refine Yn ?_ | refine Yo ?_ | refine Yp (h := ?_) | refine Yq ?_ | refine Yr ?_ | refine Ys ?_ | refine Zr hc (hk := ?_) | refine Zd hc (hk := ?_) | (refine Zc (ht := fun hb => ?_) (hf := fun hb => ?_) <;> (try simp at hb)) | fail) | (first | refine Zo hc (hk := ?_) | refine Zu hc (hk := ?_) | refine Ze hc (hk := ?_) | fail))
        all_goals try contradiction
        have e := set_hcells H j ((hstAt H j).1, t + max d (4 * k), false, (hstAt H j).2.2.2)
        (refine Zl hc (hr := ?_))
        have e0 : ∀ c, ((H.map hstCells).set j c)[j]? = some c := fun c => List.getElem?_set_self (by simpa using hj)
        simp [max2_eq, frD, e0]
        exact e
end Go.Proofs.YtnainpghpjelcaaGreatDoor
