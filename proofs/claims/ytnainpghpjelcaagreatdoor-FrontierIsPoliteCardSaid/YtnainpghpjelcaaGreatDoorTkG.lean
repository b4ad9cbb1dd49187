/-
  FRONTIER: Take, of a host that is there (program). (WITH run_drawN.)
-/
import Derived.Test.YtnainpghpjelcaaGreatDoorTkD
import Derived.Test.YtnainpghpjelcaaGreatDoorFoC
import Derived.Test.YtnainpghpjelcaaGreatDoorFnD
import Derived.Test.YtnainpghpjelcaaGreatDoorFnT
import Derived.Test.YtnainpghpjelcaaGreatDoorPermR
import Derived.Test.YtnainpghpjelcaaGreatDoorFmD
import Derived.Test.YtnainpghpjelcaaGreatDoorLwGh
import Derived.Test.YtnainpghpjelcaaGreatDoorProg
import Derived.Test.YtnainpghpjelcaaGreatDoorDel
import Derived.Test.YtnainpghpjelcaaGreatDoorLwCard
import Derived.Lib.Walk
import Derived.Shelf.RegionOpenPlain
import Derived.StillTailTactics
import Derived.Deep.RegionLaw
set_option linter.unusedSimpArgs false
set_option linter.unusedVariables false
namespace Go.Proofs.YtnainpghpjelcaaGreatDoor
open Go.Lw Go.RowKit
set_option maxRecDepth 100000
set_option maxHeartbeats 8000000

theorem anyW_seal (id : Nat) {C : Ctx} {P : Program} {nt : Nat} {ops : Array Oper} {fuel : Nat} {listed : Array Bool} {st st2 : St} {q : Prop} {K : St → Prop} (hc : CtxIs C P nt) (he : Gives (sealE id st) (st2, q)) (hp : q) (hk : anyW C ops fuel listed st2 K) : anyW C ops fuel listed st K := anyW_le (le_seal id hc he hp (Le.refl _ _)) hk
theorem hosK_at (H : List Hst) {k : Nat} (hk : k < H.length) (y : Gh) : (hosK H k y)[k]? = some ((hstAt H k).1, (hstAt H k).2.1, (hstAt H k).2.2.1, .lit (.slice y.1 (hstAt H k).2.2.2.length y.2)) := by
  unfold hosK
  rw [List.getElem?_set_self (by simpa using hk)]
/-- A host that is asked. -/
abbrev tkX (x : Hst) (lo t : Int) : Hst := (x.1, x.2.1, true, stL x.2.2.2 lo t)
theorem takeRows (H : List Hst) {k : Nat} (hk : k < H.length) (y : Gh) (x : Hst) : ((hosK H k y).map hdCells).set k (hstCells x) = (H.set k x).map hstCells := by
  unfold hosK
  rw [List.map_set, List.set_set, map_toHD, List.map_set]
theorem frTakeT_ok (f : Frt) (t : Int) (hf : FrOk f) (h0 : atE f t = 0) (h1 : 0 ≤ takeN f t) (h2 : hThere f (tkS f t) = true) : FnOk Tryz.prog 44 [frD f, int t] (takeD f t) := by
  refine fnOk Tryz.func44 rfl (by kernel_rfl) Tryz.ntmps44 _ rfl (by simp) fun C hc => ?_
  obtain ⟨hg, ht⟩ := atE_good h0
  have hA := checkAt_ok f t hf
  have hN := next_ok f t hg
  rw [h0] at hA
  obtain ⟨hi, hr⟩ : (takeN f t).toNat < f.items.length ∧ rdyP f t (wntAt f.items (takeN f t).toNat) = true := by
    rcases takeN_spec f t with h | h
    · omega
    · exact h.2
  have hE : takeE f t = if late8 (hstAt f.hosts (hLb f (tkS f t))).2.2.2 t = true then 8 else 0 := by
    unfold takeE
    rw [if_neg (fun e => e h0), if_neg (by omega), if_pos h2]
  obtain ⟨hk, hnm⟩ := there_is h2
  have hwk := wnt_key (hg.wnt _ hi)
  have hH := frHostOf_ok (tkW f t).1 (of_has hwk.1) (by have := hf.keys (takeN f t).toNat; unfold tkW; omega)
  have hO := frOwnK_ok f (hLb f (tkS f t)) hk hg.items hg.hosts hg.many
  have hmany := hg.many _ hk
  have hst := hg.starts _ hk
  obtain ⟨i, hin⟩ : ∃ i : Nat, takeN f t = i := ⟨(takeN f t).toNat, by omega⟩
  have hF : ∀ y, FnOk Tryz.prog 87 [frDK f.items (hosK f.hosts (hLb f (tkS f t)) y) f.budget f.window, str (tkS f t)] (.tup [int (hLb f (tkS f t)), tru true]) := fun y => by
    have h := findK_ok f.items (hosK f.hosts (hLb f (tkS f t)) y) f.budget f.window (tkS f t) (by simp [hosK]; exact hg.hosts) (by rw [nameK_hosK]; simpa [hosK] using hg.names) (okSt_hosK _ _ _)
    rw [nameK_hosK] at h
    have e : (hosK f.hosts (hLb f (tkS f t)) y).length = f.hosts.length := by simp [hosK]
    rw [e] at h
    have h2' : thereB (nameAt f.hosts) f.hosts.length (tkS f t) = true := h2
    rw [h2'] at h
    exact h
  have hD := fun y => delI_ok (hstAt f.hosts (hLb f (tkS f t))).2.2.2 t f.budget f.window f.items (hosK f.hosts (hLb f (tkS f t)) y) ht hg.window hmany
  have hw := hg.window
  have hil := hg.items
  have hhl := hg.hosts
  have hrow := fun y => hosK_at f.hosts hk y
  have hlen : ∀ y, (hosK f.hosts (hLb f (tkS f t)) y).length = f.hosts.length := fun y => by simp [hosK]
  unfold takeD
  rw [hE]
  have eI : (takeF f t).items = f.items.eraseIdx i := by show f.items.eraseIdx (takeN f t).toNat = _; rw [hin]; rfl
  have eH : (takeF f t).hosts = f.hosts.set (hLb f (tkS f t)) ((hstAt f.hosts (hLb f (tkS f t))).1, (hstAt f.hosts (hLb f (tkS f t))).2.1, true, stL (hstAt f.hosts (hLb f (tkS f t))).2.2.2 (t - f.window) t) := by
    show takeH f t (tkS f t) = _
    unfold takeH; rw [if_pos h2]
  have hset := fun y => takeRows f.hosts hk y (tkX (hstAt f.hosts (hLb f (tkS f t))) (t - f.window) t)
  have eW : tkW f t = wntAt f.items i := by unfold tkW; rw [hin]; rfl
  change FnOk _ _ _ (int (takeN f t)) at hN
  rw [hin] at hN
  have hdel := deleteW_ok f.items i (by omega) hg.items
  have hf2 : (takeF f t).budget = f.budget ∧ (takeF f t).window = f.window := ⟨rfl, rfl⟩
  have hfd : frD (takeF f t) = .agg [wntSl (takeF f t).items, hstSl (takeF f t).hosts, int f.budget, int f.window] := rfl
  rw [hfd, eI, eH, eW]
  rw [eW] at hH
  have hs : tkS f t = hostK (wntAt f.items i).1 := by unfold tkS; rw [eW]
  rw [← hs] at hH
  unfold owV at hO
  have hi' : i < f.items.length := by omega
  clear hfd hf2 eI eH eW h0 h1 h2 hnm hE hr hi hs hwk hg
  generalize tkS f t = s at *
  generalize hLb f s = k at *
  have hat0 : hstAt f.hosts k = hstAt f.hosts k := rfl
  obtain ⟨I, H, bu, wi⟩ := f
  simp only at *
  generalize hstAt H k = x at *
  obtain ⟨x1, x2, x3, l⟩ := x
  simp only at *
  repeat' (first | (first | refine Ya ?_ | refine Yb ?_ | refine Yc ?_ | refine Yd ?_ | refine Ye ?_ | refine Yf ?_ | refine Yg ?_ | refine Yh ?_ | refine Yi ?_ | refine Yj ?_ | refine Yk ?_ | refine Yl ?_ | refine Ym ?_ | refine Yn ?_ | refine Yo ?_ | refine Yp (h := ?_) | refine Yq ?_ | refine Yr ?_ | refine Ys ?_ | refine Zr hc (hk := ?_) | refine Zd hc (hk := ?_) | (refine Zc (ht := fun hb => ?_) (hf := fun hb => ?_) <;> (try simp at hb)) | fail) | (first | refine Zw hc (hf := by first | exact hA | exact hN) (hk := ?_) | refine Zq hc (hf := by first | exact hA | exact hN) (hk := ?_) | refine Zo hc (hk := ?_) | refine Zu hc (hk := ?_) | refine Ze hc (hk := ?_) | fail) | ((first | refine run_callME ([(40001, 40001), (40002, 40002), (40003, 40003), (40004, 40004)]) (hO) hc (by simp; exact Gives.mk) (by simp; exact Gives.mk) (by simp; exact Gives.mk) (by simp; exact Gives.mk) (by simp; exact Gives.mk) rfl (by simp; exact Gives.mk) (by simp; exact Gives.mk) rfl (fun z => by simp) (by simp) (fun z => by simp; exact Gives.mk) (fun z => by simp; exact Gives.mk) (fun y => ?_) | fail)))
  all_goals try contradiction
  all_goals try (exfalso; omega)
  have hF := hF y
  have hrow := hrow y
  have hset := hset y
  have hlen := hlen y
  have hDl : ∀ M' : List HstD, _ := fun M' => delI_ok l t bu wi I M' ht hw hmany
  clear hO hD
  generalize hosK H k y = M at *
  obtain ⟨A, cap⟩ := y
  simp only at *
  rw [← hlen] at hk hhl ⊢
  refine Zn hc (hk := ?_)
  repeat' (first | (first | refine Ya ?_ | refine Yb ?_ | refine Yc ?_ | refine Yd ?_ | refine Ye ?_ | refine Yf ?_ | refine Yg ?_ | refine Yh ?_ | refine Yi ?_ | refine Yj ?_ | refine Yk ?_ | refine Yl ?_ | refine Ym ?_ | refine Yn ?_ | refine Yo ?_ | refine Yp (h := ?_) | refine Yq ?_ | refine Yr ?_ | refine Ys ?_ | refine Zr hc (hk := ?_) | refine Zd hc (hk := ?_) | (refine Zc (ht := fun hb => ?_) (hf := fun hb => ?_) <;> (try simp at hb)) | fail) | (first | refine Zw hc (hf := by first | exact hF | exact hH) (hk := ?_) | refine Zq hc (hf := by first | exact hF | exact hH) (hk := ?_) | refine Zo hc (hk := ?_) | refine Zu hc (hk := ?_) | refine Ze hc (hk := ?_) | fail))
  all_goals try contradiction
  all_goals try (exfalso; omega)
  refine run_unghost 40004 12 (by simp [hrow]; exact Gives.mk) (by simp; exact Gives.mk) (by simp; exact Gives.mk) ?_
  have hlx : late8 l t = (decide (0 < l.length) && decide (t < l[l.length - 1]?.getD 0)) := rfl
  have hlo := fun h : 0 < l.length => (hst (l.length - 1) (by omega)).1
  unfold okM at hlo ht
  by_cases hl8 : late8 l t = true
  · rw [if_pos hl8, if_pos (show (8 : Nat) ≠ 0 by decide)]
    rw [hlx] at hl8
    simp only [Bool.and_eq_true, decide_eq_true_eq] at hl8
    clear hlx
    repeat' (first | (first | refine Ya ?_ | refine Yb ?_ | refine Yc ?_ | refine Yd ?_ | refine Ye ?_ | refine Yf ?_ | refine Yg ?_ | refine Yh ?_ | refine Yi ?_ | refine Yj ?_ | refine Yk ?_ | refine Yl ?_ | refine Ym ?_ | refine Yn ?_ | refine Yo ?_ | refine Yp (h := ?_) | refine Yq ?_ | refine Yr ?_ | refine Ys ?_ | refine Zr hc (hk := ?_) | refine Zd hc (hk := ?_) | (refine Zc (ht := fun hb => ?_) (hf := fun hb => ?_) <;> (try simp at hb)) | fail) | (first | refine Zo hc (hk := ?_) | refine Zu hc (hk := ?_) | refine Ze hc (hk := ?_) | refine Zn hc (hk := ?_) | fail))
    all_goals try contradiction
    all_goals try (exfalso; omega)
    (refine Zl hc (hr := ?_))
    simp [frNo]
  · rw [if_neg hl8, if_neg (show ¬ (0 : Nat) ≠ 0 by decide)]
    rw [hlx] at hl8
    simp only [Bool.and_eq_true, decide_eq_true_eq, not_and] at hl8
    repeat' (first | (first | refine Ya ?_ | refine Yb ?_ | refine Yc ?_ | refine Yd ?_ | refine Ye ?_ | refine Yf ?_ | refine Yg ?_ | refine Yh ?_ | refine Yi ?_ | refine Yj ?_ | refine Yk ?_ | refine Yl ?_ | refine Ym ?_ | refine Yn ?_ | refine Yo ?_ | refine Yp (h := ?_) | refine Yq ?_ | refine Yr ?_ | refine Ys ?_ | refine Zr hc (hk := ?_) | refine Zd hc (hk := ?_) | (refine Zc (ht := fun hb => ?_) (hf := fun hb => ?_) <;> (try simp at hb)) | fail) | (first | refine Zo hc (hk := ?_) | refine Zu hc (hk := ?_) | refine Ze hc (hk := ?_) | refine Zn hc (hk := ?_) | fail))
    all_goals try contradiction
    all_goals try (exfalso; omega)
    (first | refine run_sealW 3 hc (by simp; exact Gives.mk) (by simp) ?_ | refine run_seal 3 hc (by simp; exact Gives.mk) (by simp) ?_)
    refine ewp_le (run_keep [2, 3, 4, 5, 8, 9, 13] [2, 4, 5, 9, 40001, 40002, 40003, 40004] (by simp; exact Gives.mk) (by simp; exact Gives.mk)) ?_
    have hM2 : (List.map hdCells M).set k [str (M[k]?.getD hd0).1, int (M[k]?.getD hd0).2.1, D.lit (Value.bool true), (M[k]?.getD hd0).2.2.2] = (M.set k (x1, x2, true, D.lit (Value.slice A l.length cap))).map hdCells := by rw [List.map_set, hrow]; rfl
    have hrow2 : (M.set k (x1, x2, true, D.lit (Value.slice A l.length cap)))[k]? = some (x1, x2, true, D.lit (Value.slice A l.length cap)) := by rw [List.getElem?_set_self hk]
    have hlen2 : (M.set k (x1, x2, true, D.lit (Value.slice A l.length cap))).length = M.length := by simp
    have hset2 : ((M.set k (x1, x2, true, D.lit (Value.slice A l.length cap))).map hdCells).set k (hstCells (tkX (x1, x2, x3, l) (t - wi) t)) = (H.set k (tkX (x1, x2, x3, l) (t - wi) t)).map hstCells := by rw [← hset, List.map_set, List.set_set]
    rw [hM2]
    have hD := hDl (M.set k (x1, x2, true, D.lit (Value.slice A l.length cap)))
    rw [hlen2] at hD
    generalize M.set k (x1, x2, true, D.lit (Value.slice A l.length cap)) = M2 at *
    have hKl : (stK l (t - wi)).length ≤ l.length := List.length_filter_le _ _
    clear hF hH hN hA hDl hset hrow hlx
    generalize hK : stK l (t - wi) = K at *
    (apply Xd 13 hc; (focus (refine Xm 0 hc (hk := ?_); refine Xm 1 hc (hk := ?_); refine Xp 2 hc (hk := ?_); refine Xp 3 hc (hk := ?_); refine Xa [4, 5, 7] (hx := ?_); refine ⟨?_, ?_, ?_⟩; (focus (refine Xw hc (hk := ?_); refine anyW_unghost 40004 93 (by simp [hrow2]; exact Gives.mk) (by simp; exact Gives.mk) (by simp; exact Gives.mk) ?q190; refine Xa [5, 7] (hx := ?nq190); refine ⟨?_, ?_⟩; (focus (refine Xw hc (hk := ?q191); refine Xa [6, 7] (hx := ?nq191); refine ⟨?_, ?_⟩; (focus (refine Xs ([(100003, 40003), (100000, 2), (100001, 40001), (100002, 40002)]) (hD) hc (hk := ?q192); refine run_anyR 7 [7, 8, 9, 10, 11, 12] hc rfl (by kernel_rfl) rfl (by simp; exact Gives.mk) (by first | exact True.intro | omega | (simp; done) | (simp; omega) | (simp at *; omega)) (by simp) (by simp; exact Gives.mk) ?nq192; refine Xa [8] (hx := ?_); (focus (refine Xw hc (hk := ?q193); refine Xa [9] (hx := ?nq193); (focus (refine Xw hc (hk := ?_); refine anyW_seal 40003 hc (by simp; exact Gives.mk) (by simp; try omega) ?q194; refine Xp 10 hc (hk := ?nq194); refine Xp 11 hc (hk := ?_); refine Xa [12] (hx := ?_); (focus (refine Xw hc (hk := ?q195); refine Xz (hk := ?nq195); exact Xk [2, 4, 5, 8, 9] [2, 4, 5, 9, 40001, 40002])))))))); (focus (refine Xw hc (hk := ?q196); refine Xa [6, 8] (hx := ?nq196); refine ⟨?_, ?_⟩; (focus (refine Xs ([(100003, 40003), (100000, 2), (100001, 40001), (100002, 40002)]) (hD) hc (hk := ?q197); refine Xa [8] (hx := ?nq197); (focus (refine Xw hc (hk := ?_); exact Xq ?q193)))); (focus (refine Xw hc (hk := ?q198); refine Xa [6] (hx := ?nq198); (focus (refine Xs ([(100003, 40003), (100000, 2), (100001, 40001), (100002, 40002)]) (hD) hc (hk := ?_); exact Xq ?q193)))))))); (focus (refine Xw hc (hk := ?q199); refine Xa [5, 8] (hx := ?nq199); refine ⟨?_, ?_⟩; (focus (refine Xw hc (hk := ?_); exact Xq ?q196)); (focus (refine Xw hc (hk := ?q1910); refine Xa [5] (hx := ?nq1910); (focus (refine Xw hc (hk := ?_); exact Xq ?q198)))))))); (focus (refine Xw hc (hk := ?q1911); refine Xa [4, 7] (hx := ?nq1911); refine ⟨?_, ?_⟩; (focus (refine Xw hc (hk := ?_); refine anyW_unghost 40004 93 (by simp [hrow2]; exact Gives.mk) (by simp; exact Gives.mk) (by simp; exact Gives.mk) ?_; exact Xq ?q191)); (focus (refine Xw hc (hk := ?q1912); refine Xa [4, 8] (hx := ?nq1912); refine ⟨?_, ?_⟩; (focus (refine Xw hc (hk := ?_); refine anyW_unghost 40004 93 (by simp [hrow2]; exact Gives.mk) (by simp; exact Gives.mk) (by simp; exact Gives.mk) ?_; exact Xq ?q196)); (focus (refine Xw hc (hk := ?q1913); refine run_anyR 4 [4, 6, 9, 10, 11, 12] hc rfl (by kernel_rfl) rfl (by simp; exact Gives.mk) (by first | exact True.intro | omega | (simp; done) | (simp; omega) | (simp at *; omega)) (by simp) (by simp; exact Gives.mk) ?nq1913; refine anyW_unghost 40004 93 (by simp [hrow2]; exact Gives.mk) (by simp; exact Gives.mk) (by simp; exact Gives.mk) ?_; refine Xa [6] (hx := ?_); (focus (refine Xs ([(100003, 40003), (100000, 2), (100001, 40001), (100002, 40002)]) (hD) hc (hk := ?_); exact Xq ?q193)))))))); (focus (refine Xw hc (hk := ?q1914); refine Xa [4, 5, 8] (hx := ?nq1914); refine ⟨?_, ?_, ?_⟩; (focus (refine Xw hc (hk := ?_); refine anyW_unghost 40004 93 (by simp [hrow2]; exact Gives.mk) (by simp; exact Gives.mk) (by simp; exact Gives.mk) ?_; exact Xq ?q199)); (focus (refine Xw hc (hk := ?_); exact Xq ?q1912)); (focus (refine Xw hc (hk := ?q1915); refine Xa [4, 5] (hx := ?nq1915); refine ⟨?_, ?_⟩; (focus (refine Xw hc (hk := ?_); refine anyW_unghost 40004 93 (by simp [hrow2]; exact Gives.mk) (by simp; exact Gives.mk) (by simp; exact Gives.mk) ?_; exact Xq ?q1910)); (focus (refine Xw hc (hk := ?_); exact Xq ?q1913)))))))))
    have hrows : (List.map hdCells M2).set k [str (M2[k]?.getD hd0).1, int (M2[k]?.getD hd0).2.1, tru (M2[k]?.getD hd0).2.2.1, D.sl (K.length + 1) fun i => (List.map (fun y => [int y]) K ++ [[int t]])[i]?.getD [int 0]] = (H.set k (tkX (x1, x2, x3, l) (t - wi) t)).map hstCells := by
      rw [← hset2, hrow2]
      have e : (fun i : Nat => (List.map (fun y => [int y]) K ++ [[int t]])[i]?.getD [int 0]) = fun i : Nat => [int ((K ++ [t])[i]?.getD 0)] := by
        funext i
        rw [show List.map (fun y => [int y]) K ++ [[int t]] = (K ++ [t]).map (fun y => [int y]) by simp, List.getElem?_map]
        exact row_i _
      rw [e]
      have e2 : hstCells (tkX (x1, x2, x3, l) (t - wi) t) = [str x1, int x2, tru true, .sl (K.length + 1) fun i => [int ((K ++ [t])[i]?.getD 0)]] := by
        show [str x1, int x2, tru true, intSl (stK l (t - wi) ++ [t])] = _
        rw [hK]
        simp [intSl]
      rw [e2]
      rfl
    rw [hrows]
    have hXl : (H.set k (tkX (x1, x2, x3, l) (t - wi) t)).length = M.length := by rw [List.length_set, hlen]
    generalize hXX : H.set k (tkX (x1, x2, x3, l) (t - wi) t) = X at *
    have hEl : (I.eraseIdx i).length = I.length - 1 := by rw [List.length_eraseIdx, if_pos hi']
    rw [← hEl] at hdel
    generalize hEE : I.eraseIdx i = E at *
    rw [← hXl]
    repeat' (first | (first | refine Ya ?_ | refine Yb ?_ | refine Yc ?_ | refine Yd ?_ | refine Ye ?_ | refine Yf ?_ | refine Yg ?_ | refine Yh ?_ | refine Yi ?_ | refine Yj ?_ | refine Yk ?_ | refine Yl ?_ | refine Ym ?_ | refine Yn ?_ | refine Yo ?_ | refine Yp (h := ?_) | refine Yq ?_ | refine Yr ?_ | refine Ys ?_ | refine Zr hc (hk := ?_) | refine Zd hc (hk := ?_) | (refine Zc (ht := fun hb => ?_) (hf := fun hb => ?_) <;> (try simp at hb)) | fail) | ((first | refine run_callM ([(50001, 40001)]) (hdel) hc (by simp; exact Gives.mk) (by simp; exact Gives.mk) (by simp; exact Gives.mk) (by simp; exact Gives.mk) (by simp; exact Gives.mk) rfl (by simp; exact Gives.mk) (by simp; exact Gives.mk) rfl (by simp) (by simp) (by simp; exact Gives.mk) (by simp; exact Gives.mk) ?_ | fail)) | (first | refine Zo hc (hk := ?_) | refine Zu hc (hk := ?_) | refine Ze hc (hk := ?_) | fail))
    all_goals try contradiction
    all_goals try (exfalso; omega)
    refine ewp_le (run_keep [2, 4, 5, 9] [2, 4, 5, 9, 40001, 40002] (by simp; exact Gives.mk) (by simp; exact Gives.mk)) ?_
    (apply Xd 5 hc; (focus (refine run_anyR 0 [0, 2, 3, 4] hc rfl (by kernel_rfl) rfl (by simp; exact Gives.mk) (by first | exact True.intro | omega | (simp; done) | (simp; omega) | (simp at *; omega)) (by simp) (by simp; exact Gives.mk) ?_; refine Xa [1, 2] (hx := ?_); refine ⟨?_, ?_⟩; (focus (refine Xw hc (hk := ?q210); refine Xa [2] (hx := ?nq210); (focus (refine Xw hc (hk := ?q211); refine Xa [3] (hx := ?nq211); (focus (refine Xw hc (hk := ?q212); refine Xm 4 hc (hk := ?nq212); refine Xz (hk := ?_); exact Xk [4, 5, 6] [4, 5, 40001, 40002])))))); (focus (refine Xw hc (hk := ?q213); refine run_anyR 1 [1, 3, 4] hc rfl (by kernel_rfl) rfl (by simp; exact Gives.mk) (by first | exact True.intro | omega | (simp; done) | (simp; omega) | (simp at *; omega)) (by simp) (by simp; exact Gives.mk) ?nq213; refine Xa [3] (hx := ?_); (focus (refine Xw hc (hk := ?_); exact Xq ?q212)))))))
    repeat' (first | (first | refine Ya ?_ | refine Yb ?_ | refine Yc ?_ | refine Yd ?_ | refine Ye ?_ | refine Yf ?_ | refine Yg ?_ | refine Yh ?_ | refine Yi ?_ | refine Yj ?_ | refine Yk ?_ | refine Yl ?_ | refine Ym ?_ | refine Yn ?_ | refine Yo ?_ | refine Yp (h := ?_) | refine Yq ?_ | refine Yr ?_ | refine Ys ?_ | refine Zr hc (hk := ?_) | refine Zd hc (hk := ?_) | (refine Zc (ht := fun hb => ?_) (hf := fun hb => ?_) <;> (try simp at hb)) | fail) | (first | refine Zo hc (hk := ?_) | refine Zu hc (hk := ?_) | refine Ze hc (hk := ?_) | fail))
    all_goals try contradiction
    have e1 := del_cells E 1
    have e2 : (fun i => (X.map hstCells)[i]?.getD [str [], int 0, tru false, intSl []]) = fun i => [str (hstAt X i).1, int (hstAt X i).2.1, tru (hstAt X i).2.2.1, intSl (hstAt X i).2.2.2] := by funext i; rw [List.getElem?_map, row_h]
    (refine Zl hc (hr := ?_))
    simp only [List.replicate_succ, List.replicate_zero] at e1
    simp [e1, e2]
end Go.Proofs.YtnainpghpjelcaaGreatDoor
/-
  slices.Insert of one element at []api.Host: its four roads, and the contract.
-/
set_option linter.unusedSimpArgs false
set_option linter.unusedVariables false
namespace Go.Proofs.YtnainpghpjelcaaGreatDoor
open Go.Lw Go.RowKit Go.Shelf
set_option maxHeartbeats 4000000
set_option maxRecDepth 100000

theorem insH_info : ∃ i0 z, Tryz.prog.info? 92 = some i0 ∧ i0.zero = some z ∧ i0.size = 4 ∧ i0.bytes = 56 ∧ z.cells.size = 4 := by
  have h : (Tryz.prog.info? 92).map (fun i => (i.size, i.bytes, i.zero.map fun z => z.cells.size)) = some (4, 56, some 4) := by kernel_rfl
  obtain ⟨i0, h1, h2⟩ := Option.map_eq_some_iff.1 h
  simp only [Prod.mk.injEq] at h2
  obtain ⟨h3, h4, h5⟩ := h2
  obtain ⟨z, h6, h7⟩ := Option.map_eq_some_iff.1 h5
  exact ⟨i0, z, h1, h6, h3, h4, h7⟩
theorem insH_shift (b n c i vb vc : Nat) (cs vs : List Value) (w : World) (hi : i < n) (hroom : n + 1 ≤ c) (hc63 : c ≤ 9223372036854775807) (hvb : vb ≠ b)
    (hcl : cs.length = n * 4) (hvl : vs.length = 4)
    (hcs : ∀ j v, cs[j]? = some v → w.cell? ⟨b, j, none⟩ = some v) (hsp : ∀ j, j < (n + 1) * 4 → (w.cell? ⟨b, j, none⟩).isSome = true) (hfz : ∀ j, j < (n + 1) * 4 → w.frozen? ⟨b, j, none⟩ = false)
    (hvs : ∀ j v, vs[j]? = some v → w.cell? ⟨vb, j, none⟩ = some v) (h1c : ∀ v ∈ cs, v.oneCell' = true) (h1v : ∀ v ∈ vs, v.oneCell' = true)
    (tA tB : TypeId) (kA kB : Nat) (hsa : w.shape? vb = some (tA, kA)) (hsb : w.shape? b = some (tB, kB)) (hkB : kB ≠ 0) (hfa : w.frozen? ⟨vb, 0, none⟩ = false) (hfe : w.frozen? ⟨vb, kA, none⟩ = false) :
    Calls Tryz.prog 109 #[.slice (some ⟨b, 0, none⟩) n c, .int .i64 i, .slice (some ⟨vb, 0, none⟩) 1 vc] w fun e w' =>
      e = .returned (.slice (some ⟨b, 0, none⟩) (n + 1) c) ∧ w' = (w.drew.setCells b ((i + 1) * 4) (cs.drop (i * 4))).setCells b (i * 4) vs := by
  have mixed : Tryz.prog.follows .mixedOrders = true := by kernel_rfl
  have hz2 : ¬ ((i : Int) = (n : Int)) := by omega
  have hsz : (Tryz.prog.info? 92).map (·.size) = some 4 := by kernel_rfl
  have hzs : ∀ w, (Go.sizeOf 92).run Tryz.prog w = .ok 4 w := fun w => Lw.run_sizeOf (show eSz _ _ = some 4 from hsz) w
  have hov : ∀ o lb cb, (callFunc 162 #[.slice (some ⟨vb, 0, none⟩) 1 vc, .slice (some ⟨b, o, none⟩) lb cb]).run Tryz.prog w = .ok (.value (.bool false)) w := fun o lb cb => by
    rw [run_callFunc_extern Tryz.func162 (by kernel_rfl) (by kernel_rfl) (by kernel_rfl) (e := Extern.SlicesOverlaps.overlaps #[23, 23] #[4]) (by kernel_rfl),
      Lib.run_overlaps_apart w 23 4 92 Tryz.underlying23 4 hzs ⟨vb, 0, none⟩ ⟨b, o, none⟩ 1 vc lb cb hvb tA tB kA kB hsa hsb hkB hfa hfe]
    rfl
  have hdl : (cs.drop (i * 4)).length = (n - i) * 4 := by first | (rw [List.length_drop, hcl]; omega) | (rw [List.length_drop, hcl])
  have hw1 : IntKind.i64.wrap ((i : Int) + 1) = (i : Int) + 1 := by rw [IntKind.wrap_i64]; omega
  have hb1 : (0 : Int) ≤ (i : Int) + 1 := by omega
  have hin : i ≤ n := by omega
  have htn : ((i : Int) + 1).toNat = i + 1 := by omega
  have hb2 : ¬ (c = i + 1) := by omega
  have hb3 : (i : Int) ≤ (n : Int) + 1 := by omega
  have hb4 : ¬ (c = i) := by omega
  have hcp1 : ∀ ty dc sc, (Builtin.copy_ #[23, 23] ty #[.slice (some ⟨b, (i + 1) * 4, none⟩) (n - i) dc, .slice (some ⟨b, i * 4, none⟩) (n + 1 - i) sc]).run Tryz.prog w.drew = .ok (goInt ((n - i : Nat) : Int)) (w.drew.setCells b ((i + 1) * 4) (cs.drop (i * 4))) := fun ty dc sc => by
    have hm : Nat.min (n + 1 - i) (n - i) = n - i := by simp only [Nat.min_def]; split <;> omega
    have := run_copy_K (P := Tryz.prog) w.drew 23 23 ty 92 4 b ((i + 1) * 4) (n - i) dc ⟨b, i * 4, none⟩ (n + 1 - i) sc (cs.drop (i * 4)) Tryz.underlying23 hsz (by rw [hm, hdl]; try omega)
      (fun j v hj => by rw [addr_add]; exact hcs (i * 4 + j) v (by rwa [List.getElem?_drop] at hj))
      (fun j hj => by exact hsp _ (by omega)) (fun j hj => by exact hfz _ (by omega)) (fun v hv => h1c v (List.mem_of_mem_drop hv))
    rw [hm] at this
    exact this
  obtain ⟨W1, hW1⟩ : ∃ W1, W1 = w.drew.setCells b ((i + 1) * 4) (cs.drop (i * 4)) := ⟨_, rfl⟩
  have hsp1 : ∀ k, k < (n + 1) * 4 → (W1.cell? ⟨b, k, none⟩).isSome = true := fun k hk => by
    rw [hW1]
    exact isSome_setCellsK b (cs.drop (i * 4)) ((i + 1) * 4) w.drew (fun j hj => hsp _ (by omega)) k (hsp k hk)
  have hcp2 : ∀ (W : World), (∀ x, W.cell? x = W1.cell? x) → (∀ x, W.frozen? x = W1.frozen? x) → ∀ ty dc, (Builtin.copy_ #[23, 23] ty #[.slice (some ⟨b, i * 4, none⟩) (n + 1 - i) dc, .slice (some ⟨vb, 0, none⟩) 1 vc]).run Tryz.prog W = .ok (goInt 1) (W.setCells b (i * 4) vs) := fun W hWc hWf ty dc => by
    have hm : Nat.min 1 (n + 1 - i) = 1 := by simp only [Nat.min_def]; split <;> omega
    have := run_copy_K (P := Tryz.prog) W 23 23 ty 92 4 b (i * 4) (n + 1 - i) dc ⟨vb, 0, none⟩ 1 vc vs Tryz.underlying23 hsz (by rw [hm, hvl]; try omega)
      (fun j v hj => by
        rw [addr_add, Nat.zero_add, hWc, hW1, World.cell?_setCells_out b _ _ _ _ (fun h _ => absurd h hvb)]
        exact hvs j v hj)
      (fun j hj => by rw [hWc]; exact hsp1 _ (by omega)) (fun j hj => by rw [hWf, hW1, World.frozen?_setCells]; exact hfz _ (by omega)) h1v
    rw [hm] at this
    exact this
  rw [← hW1] at hcp1
  go_enter Tryz.func109, Tryz.ntmps109
  go_wp2_with (simp only [hov])
  go_region_law_o (refine step_copyK rfl _ _ 23 23 rfl _ _ (by simp [Act.eval, Act.put]) (by simp [Act.eval, Act.put]) (hcp1 _ _ _) ?_)
  go_wp2_with (at_builtin; refine wpList_copyK _ rfl _ _ 23 23 rfl _ _ rfl rfl (hcp2 _ (fun _ => rfl) (fun _ => rfl) _ _) ?_)
  go_ret
  first | exact ⟨rfl, rfl⟩ | exact ⟨rfl, by rw [hW1]⟩
theorem insH_end_room (b n c vb vc : Nat) (vs : List Value) (w : World) (hroom : n + 1 ≤ c) (hc63 : c ≤ 9223372036854775807)
    (hvl : vs.length = 4) (hsp : ∀ j, j < 4 → (w.cell? ⟨b, n * 4 + j, none⟩).isSome = true) (hfz : ∀ j, j < 4 → w.frozen? ⟨b, n * 4 + j, none⟩ = false)
    (hvs : ∀ j v, vs[j]? = some v → w.cell? ⟨vb, j, none⟩ = some v) (h1v : ∀ v ∈ vs, v.oneCell' = true) :
    Calls Tryz.prog 109 #[.slice (some ⟨b, 0, none⟩) n c, .int .i64 n, .slice (some ⟨vb, 0, none⟩) 1 vc] w fun e w' =>
      e = .returned (.slice (some ⟨b, 0, none⟩) (n + 1) c) ∧ w' = w.setCells b (n * 4) vs := by
  obtain ⟨i0, z, hi0, hz0, hzs, hzb, hzc⟩ := insH_info
  have hrun : ∀ ty, (Builtin.append_ #[23, 23] ty #[.slice (some ⟨b, 0, none⟩) n c, .slice (some ⟨vb, 0, none⟩) 1 vc]).run Tryz.prog w = .ok (.slice (some ⟨b, 0, none⟩) (n + 1) c) (w.setCells b (n * 4) vs) := fun ty => by
    have := run_append_room_cells (P := Tryz.prog) w 23 ty 92 i0 Tryz.underlying23 hi0 b 0 n c ⟨vb, 0, none⟩ 1 vc vs (by rw [hvl, hzs]) (fun j u hj => by rw [addr_add, Nat.zero_add]; exact hvs j u hj) h1v hroom
      (fun j hj => by rw [hzs, Nat.zero_add]; first | exact hsp j (by omega) | (rw [Nat.mul_one]; exact hsp j (by omega))) (fun j hj => by rw [hzs, Nat.zero_add]; first | exact hfz j (by omega) | (rw [Nat.mul_one]; exact hfz j (by omega)))
    rw [hzs, Nat.zero_add] at this
    first | exact this | (rw [Nat.mul_one] at this; exact this)
  go_enter Tryz.func109, Tryz.ntmps109
  go_wp2_with (at_builtin; refine Lib.wpList_append_run _ rfl _ _ _ _ rfl _ _ rfl rfl _ _ (hrun _) ?_)
  all_goals (go_ret; exact ⟨rfl, rfl⟩)
theorem insH_end_grow (base : Option Nat) (n c vb vc : Nat) (cs vs : List Value) (w : World) (hnc : n ≤ c) (hroom : c < n + 1) (hbig : (n + 1) * 56 ≤ 140737488355328)
    (hcl : cs.length = n * 4) (hvl : vs.length = 4) (hnil : base = none → n = 0)
    (hcs : ∀ b, base = some b → ∀ j v, cs[j]? = some v → w.cell? ⟨b, j, none⟩ = some v)
    (hvs : ∀ j v, vs[j]? = some v → w.cell? ⟨vb, j, none⟩ = some v) (h1v : ∀ v ∈ vs, v.oneCell' = true) :
    Calls Tryz.prog 109 #[.slice (base.map fun b => ⟨b, 0, none⟩) n c, .int .i64 n, .slice (some ⟨vb, 0, none⟩) 1 vc] w fun e w' =>
      e = .returned (.slice (some ⟨w.heap.size, 0, none⟩) (n + 1) (grownCap w (n + 1) c 92)) ∧
      ∃ zc : Array Value, zc.size = 4 ∧ w' = w.drew.alloc (.cells ((cs ++ vs).toArray ++ Builtin.zeroCells zc (grownCap w (n + 1) c 92 - (n + 1))) 92) := by
  obtain ⟨i0, z, hi0, hz0, hzs, hzb, hzc⟩ := insH_info
  have hsrc : Src Tryz.prog i0.size 23 (.slice (some ⟨vb, 0, none⟩) 1 vc) 1 vs w := by
    rw [hzs]
    exact Src.ofSlice w Tryz.underlying23 ⟨vb, 0, none⟩ 1 vc vs (by omega) (fun j u hj => by rw [addr_add, Nat.zero_add]; exact hvs j u hj) h1v
  have hold : (Builtin.firstCells i0.size n (.slice (base.map fun b => ⟨b, 0, none⟩) n c)).run Tryz.prog w.drew = .ok cs.toArray w.drew := by
    rw [hzs]
    cases base with
    | none =>
      have h0 := hnil rfl
      subst h0
      rw [List.length_eq_zero_iff.1 (by omega : cs.length = 0)]
      exact run_firstCells_none w.drew 4 0 0 c
    | some b => exact run_firstCells_some w.drew 4 n ⟨b, 0, none⟩ n c cs (by omega) (fun j v hj => by rw [addr_add, Nat.zero_add]; exact hcs b rfl j v hj)
  have hrun : ∀ ty, (Builtin.append_ #[23, 23] ty #[.slice (base.map fun b => ⟨b, 0, none⟩) n c, .slice (some ⟨vb, 0, none⟩) 1 vc]).run Tryz.prog w = _ := fun ty =>
    run_append_grow_src w 23 23 ty 92 i0 z Tryz.underlying23 hi0 hz0 (base.map fun b => ⟨b, 0, none⟩) n c cs hold _ 1 vs hsrc hroom (by omega) (by rw [hzb]; exact growslice_fits hroom hbig)
  generalize z.cells = zc at hrun hzc
  clear hz0
  go_enter Tryz.func109, Tryz.ntmps109
  cases base with
  | none =>
    have h0 := hnil rfl
    subst h0
    go_wp2_with (at_builtin; refine Lib.wpList_append_run _ rfl _ _ _ _ rfl _ _ rfl rfl _ _ (hrun _) ?_)
    all_goals (go_ret; exact ⟨rfl, zc, hzc, rfl⟩)
  | some a =>
    go_wp2_with (at_builtin; refine Lib.wpList_append_run _ rfl _ _ _ _ rfl _ _ rfl rfl _ _ (hrun _) ?_)
    all_goals (go_ret; exact ⟨rfl, zc, hzc, rfl⟩)
theorem insH_grow (b n c i vb vc : Nat) (cs vs : List Value) (w : World) (hi : i < n) (hnc : n ≤ c) (hroom : c < n + 1) (hbig : (n + 1) * 56 ≤ 140737488355328)
    (hcl : cs.length = n * 4) (hvl : vs.length = 4) (hbw : b < w.heap.size) (hvw : vb < w.heap.size)
    (hcs : ∀ j v, cs[j]? = some v → w.cell? ⟨b, j, none⟩ = some v)
    (hvs : ∀ j v, vs[j]? = some v → w.cell? ⟨vb, j, none⟩ = some v) (h1c : ∀ v ∈ cs, v.oneCell' = true) (h1v : ∀ v ∈ vs, v.oneCell' = true) :
    Calls Tryz.prog 109 #[.slice (some ⟨b, 0, none⟩) n c, .int .i64 i, .slice (some ⟨vb, 0, none⟩) 1 vc] w fun e w' =>
      e = .returned (.slice (some ⟨w.heap.size, 0, none⟩) (n + 1) (grownCap w (n + 1) c 92)) ∧
      ∃ zc : Array Value, zc.size = 4 ∧ w' = (((w.alloc (.cells ((cs.take (i * 4)).toArray ++ Builtin.zeroCells zc (n + 1 - i) ++ Builtin.zeroCells zc (grownCap w (n + 1) c 92 - (n + 1))) 92)).drew.setCells w.heap.size (i * 4) vs).drew).setCells w.heap.size ((i + 1) * 4) (cs.drop (i * 4)) := by
  have mixed : Tryz.prog.follows .mixedOrders = true := by kernel_rfl
  obtain ⟨i0, z, hi0, hz0, hzs, hzb, hzc⟩ := insH_info
  have hz2 : ¬ ((i : Int) = (n : Int)) := by omega
  have hz3 : (c : Int) < (n : Int) + 1 := by omega
  have hsz : (Tryz.prog.info? 92).map (·.size) = some 4 := by rw [hi0]; simp [hzs]
  have hkk : (n : Int) + 1 - (i : Int) = ((n + 1 - i : Nat) : Int) := by omega
  have hik : i + (n + 1 - i) = n + 1 := by omega
  have hold : (Builtin.firstCells i0.size i (.slice (some ⟨b, 0, none⟩) i c)).run Tryz.prog w.drew = .ok (cs.take (i * 4)).toArray w.drew := by
    rw [hzs]
    exact run_firstCells_some w.drew 4 i ⟨b, 0, none⟩ i c (cs.take (i * 4)) (by rw [List.length_take]; omega) (fun j v hj => by
      rw [addr_add, Nat.zero_add]
      rw [List.getElem?_take] at hj
      split at hj
      · exact hcs j v hj
      · cases hj)
  have hrz : ∀ ty, (Builtin.append_ #[23, 3] ty #[.slice (some ⟨b, 0, none⟩) i c, .int .i64 ((n : Int) + 1 - (i : Int))]).run Tryz.prog w =
      .ok (.slice (some ⟨w.heap.size, 0, none⟩) (n + 1) (grownCap w (n + 1) c 92)) (w.drew.alloc (.cells ((cs.take (i * 4)).toArray ++ Builtin.zeroCells z.cells (n + 1 - i) ++ Builtin.zeroCells z.cells (grownCap w (n + 1) c 92 - (n + 1))) 92)) := fun ty => by
    have h := Lib.run_append_grow_zeros w 23 3 ty 92 i0 z .i64 .i64 Tryz.underlying23 Tryz.underlying3 hi0 hz0 (some ⟨b, 0, none⟩) i c (cs.take (i * 4)) hold (n + 1 - i) (by omega) (by omega) (by omega) (by omega) (by rw [hzb]; omega) (by rw [hzb, hik]; exact growslice_fits hroom hbig)
    rw [hik] at h
    rw [hkk]
    exact h
  obtain ⟨G, hG⟩ : ∃ G, G = grownCap w (n + 1) c 92 := ⟨_, rfl⟩
  obtain ⟨ROW, hROW⟩ : ∃ ROW : Array Value, ROW = (cs.take (i * 4)).toArray ++ Builtin.zeroCells z.cells (n + 1 - i) ++ Builtin.zeroCells z.cells (G - (n + 1)) := ⟨_, rfl⟩
  rw [← hG] at hrz ⊢
  rw [← hROW] at hrz
  have hRl : (n + 1) * 4 ≤ ROW.size := by
    rw [hROW]
    simp [Builtin.zeroCells, hzc]
    omega
  obtain ⟨W1, hW1⟩ : ∃ W1, W1 = w.drew.alloc (.cells ROW 92) := ⟨_, rfl⟩
  rw [← hW1] at hrz
  have hN : ∀ j, j < (n + 1) * 4 → (W1.cell? ⟨w.heap.size, j, none⟩).isSome = true := fun j hj => by
    rw [hW1, World.cell?_alloc_at (w := w.drew) ROW _ w.heap.size j rfl, Array.getElem?_eq_getElem (by omega)]; rfl
  have hNf : ∀ j, W1.frozen? ⟨w.heap.size, j, none⟩ = false := fun j => by rw [hW1]; exact World.frozen?_alloc_at (w := w.drew) ROW _ w.heap.size j rfl
  have hOb : ∀ j v, w.cell? ⟨b, j, none⟩ = some v → W1.cell? ⟨b, j, none⟩ = some v := fun j v h => by rw [hW1, World.cell?_alloc_past (w := w.drew) _ b j hbw]; exact h
  have hOv : ∀ j v, w.cell? ⟨vb, j, none⟩ = some v → W1.cell? ⟨vb, j, none⟩ = some v := fun j v h => by rw [hW1, World.cell?_alloc_past (w := w.drew) _ vb j hvw]; exact h
  have hcpA : ∀ (W : World), (∀ x, W.cell? x = W1.cell? x) → (∀ x, W.frozen? x = W1.frozen? x) → ∀ ty dc, (Builtin.copy_ #[23, 23] ty #[.slice (some ⟨w.heap.size, i * 4, none⟩) (n + 1 - i) dc, .slice (some ⟨vb, 0, none⟩) 1 vc]).run Tryz.prog W = .ok (goInt 1) (W.setCells w.heap.size (i * 4) vs) := fun W hWc hWf ty dc => by
    have hm : Nat.min 1 (n + 1 - i) = 1 := by simp only [Nat.min_def]; split <;> omega
    have := run_copy_K (P := Tryz.prog) W 23 23 ty 92 4 w.heap.size (i * 4) (n + 1 - i) dc ⟨vb, 0, none⟩ 1 vc vs Tryz.underlying23 hsz (by rw [hm, hvl]; try omega)
      (fun j v hj => by rw [addr_add, Nat.zero_add, hWc]; exact hOv _ v (hvs j v hj))
      (fun j hj => by rw [hWc]; exact hN _ (by omega)) (fun j hj => by rw [hWf]; exact hNf _) h1v
    rw [hm] at this
    exact this
  have hGn : n + 1 ≤ G := by rw [hG]; exact grownCap_ge w _ _ _
  have hG63 : G ≤ 9223372036854775807 := by
    have := grownCap_le_maxLen w (n + 1) c 92 (by unfold maxLen; omega)
    rw [← hG] at this
    unfold maxLen at this
    omega
  have hGi : ¬ (G = i) := by omega
  have hGim : ¬ (G = i + 1) := by omega
  have hci : ¬ (c = i) := by omega
  have hbN : b ≠ w.heap.size := by omega
  have hdl : (cs.drop (i * 4)).length = (n - i) * 4 := by first | (rw [List.length_drop, hcl]; omega) | (rw [List.length_drop, hcl])
  have hcpB : ∀ (W : World), (∀ x, W.cell? x = (W1.setCells w.heap.size (i * 4) vs).cell? x) → (∀ x, W.frozen? x = (W1.setCells w.heap.size (i * 4) vs).frozen? x) → ∀ ty dc sc, (Builtin.copy_ #[23, 23] ty #[.slice (some ⟨w.heap.size, (i + 1) * 4, none⟩) (n - i) dc, .slice (some ⟨b, i * 4, none⟩) (n - i) sc]).run Tryz.prog W = .ok (goInt ((n - i : Nat) : Int)) (W.setCells w.heap.size ((i + 1) * 4) (cs.drop (i * 4))) := fun W hWc hWf ty dc sc => by
    have hm : Nat.min (n - i) (n - i) = n - i := by simp only [Nat.min_def]; split <;> omega
    have := run_copy_K (P := Tryz.prog) W 23 23 ty 92 4 w.heap.size ((i + 1) * 4) (n - i) dc ⟨b, i * 4, none⟩ (n - i) sc (cs.drop (i * 4)) Tryz.underlying23 hsz (by rw [hm, hdl]; try omega)
      (fun j v hj => by
        rw [addr_add, hWc, World.cell?_setCells_out _ _ _ _ _ (fun h _ => absurd h hbN)]
        exact hOb _ v (hcs (i * 4 + j) v (by rwa [List.getElem?_drop] at hj)))
      (fun j hj => by rw [hWc]; exact isSome_setCellsK _ _ _ _ (fun t ht => hN _ (by omega)) _ (hN _ (by omega)))
      (fun j hj => by rw [hWf, World.frozen?_setCells]; exact hNf _) (fun v hv => h1c v (List.mem_of_mem_drop hv))
    rw [hm] at this
    exact this
  subst hW1
  have hE1 : ∀ x, ((w.alloc (.cells ROW 92)).drew).cell? x = (w.drew.alloc (.cells ROW 92)).cell? x := fun x => rfl
  have hE2 : ∀ x, ((w.alloc (.cells ROW 92)).drew).frozen? x = (w.drew.alloc (.cells ROW 92)).frozen? x := fun x => rfl
  have hF1 : ∀ x, (((w.alloc (.cells ROW 92)).drew.setCells w.heap.size (i * 4) vs).drew).cell? x = ((w.drew.alloc (.cells ROW 92)).setCells w.heap.size (i * 4) vs).cell? x := fun x => rfl
  have hF2 : ∀ x, (((w.alloc (.cells ROW 92)).drew.setCells w.heap.size (i * 4) vs).drew).frozen? x = ((w.drew.alloc (.cells ROW 92)).setCells w.heap.size (i * 4) vs).frozen? x := fun x => rfl
  have hw1 : IntKind.i64.wrap ((i : Int) + 1) = (i : Int) + 1 := by rw [IntKind.wrap_i64]; omega
  have hb1 : (0 : Int) ≤ (i : Int) + 1 := by omega
  have hin : i ≤ n := by omega
  have htn : ((i : Int) + 1).toNat = i + 1 := by omega
  have hb3 : (i : Int) ≤ (n : Int) := by omega
  have h0 : Calls Tryz.prog 109 #[.slice (some ⟨b, 0, none⟩) n c, .int .i64 i, .slice (some ⟨vb, 0, none⟩) 1 vc] w fun e w' =>
      e = .returned (.slice (some ⟨w.heap.size, 0, none⟩) (n + 1) G) ∧ w' = (((w.alloc (.cells ROW 92)).drew.setCells w.heap.size (i * 4) vs).drew).setCells w.heap.size ((i + 1) * 4) (cs.drop (i * 4)) := by
   clear hkk hik hold hG hRl hROW hz0
   go_enter Tryz.func109, Tryz.ntmps109
   go_wp2_with (first
     | (at_builtin; refine Lib.wpList_append_run _ rfl _ _ _ _ rfl _ _ rfl rfl _ _ (hrz _) ?_)
     | (at_builtin; refine wpList_copyK _ rfl _ _ 23 23 rfl _ _ rfl rfl (hcpA _ hE1 hE2 _ _) ?_))
   go_region_law_o (refine step_copyK rfl _ _ 23 23 rfl (.slice (some ⟨w.heap.size, (i + 1) * 4, none⟩) (n - i) (G - (i + 1))) (.slice (some ⟨b, i * 4, none⟩) (n - i) (c - i)) (by simp [Act.eval, Act.put]) (by simp [Act.eval, Act.put]) (hcpB _ hF1 hF2 3 (G - (i + 1)) (c - i)) ?_)
   go_wp2
   go_ret
   exact ⟨rfl, rfl⟩
  refine h0.mono ?_
  rintro e w' ⟨rfl, rfl⟩
  exact ⟨rfl, z.cells, hzc, by rw [hROW]⟩
/-- slices.Insert of one element. -/
theorem insH_ok (es : List (List D)) (x : List D) (i : Nat) (z z2 : List D) (hes : rowsOk 4 es) (hx : rowsOk 4 [x]) (hi : i ≤ es.length) (hbig : (es.length + 1) * 56 ≤ 140737488355328) :
    FnMem Tryz.prog 109 [.os 50001 es.length, .d (.lit (.int .i64 i)), .os 50002 1] [(50001, .own 92 4 (true, z) es), (50002, .own 92 4 (true, z2) [x])] (.os 50001 (es.length + 1)) [(50001, .own 92 4 (true, z) (es.take i ++ x :: es.drop i))] := by
  refine ⟨by kernel_rfl, fun ok h w vs hok hstd hlow hlies hargs => ?_⟩
  obtain ⟨hvs, hva⟩ := hargs
  obtain ⟨hs1, hm1, ho1⟩ := hlies.obj 50001 _ rfl
  obtain ⟨hs2, hm2, ho2⟩ := hlies.obj 50002 _ rfl
  obtain ⟨v0, hv0, hr0⟩ := hva 0 _ rfl
  obtain ⟨v1, hv1, hr1⟩ := hva 1 _ rfl
  obtain ⟨v2, hv2, hr2⟩ := hva 2 _ rfl
  obtain rfl : vs = #[v0, v1, v2] := by
    obtain ⟨vs⟩ := vs
    match vs, hvs, hv0, hv1, hv2 with
    | [_, _, _], _, hv0, hv1, hv2 => cases hv0; cases hv1; cases hv2; rfl
  obtain rfl := lit_of hr1
  cases hr0 with
  | os _ _ hc1 =>
  cases hr2 with
  | os _ _ hc2 =>
  clear hva hv0 hv1 hv2 hr1 hvs
  have hlen' : (es.take i ++ x :: es.drop i).length = es.length + 1 := by simp; omega
  rcases ho2 with ⟨_, e2, _⟩ | ⟨vb, cur2, fz2, g1, g2, g3, g4, g5, g6, g7⟩
  · cases e2
  obtain rfl := g4 rfl
  have hx1 : [x].length * 4 ≤ cur2.size := by rw [g6]; simp only [List.length_cons, List.length_nil] at g5 ⊢; omega
  have hxr := own_cells (w := w) (ok := ok) g7 (by omega)
  try simp only [Nat.mul_one] at hxr
  have hxo := rows_one hxr hx (by decide)
  have hxl := hxr.1
  have hvs : ∀ j v, (cur2.toList.take ([x].length * 4))[j]? = some v → w.cell? ⟨vb, j, none⟩ = some v := fun j v hj => by
    rw [List.getElem?_take] at hj
    split at hj
    · simpa [World.cell?, g2] using hj
    · cases hj
  generalize cur2.toList.take ([x].length * 4) = vs at hxr hxo hxl hvs
  simp only [List.length_cons, List.length_nil] at hxl
  obtain ⟨hvlt, hvok⟩ := hlies.blk 50002 _ vb rfl g1
  have hsa : w.shape? vb = some (92, cur2.size) := by simp [World.shape?, g2]
  have hfa : w.frozen? ⟨vb, 0, none⟩ = false := by simp [World.frozen?, g2]
  have hfe : w.frozen? ⟨vb, cur2.size, none⟩ = false := by simp [World.frozen?, g2]
  have ha2 : (h 50002).addr = some ⟨vb, 0, none⟩ := by simp [Hd.addr, g1]
  rw [ha2]
  -- a new row, of the cells that it should have
  have fresh : ∀ (w' : World) (b' cap' : Nat) (cur' : Array Value) (cs : List Value), RowsRd w ok 4 es cs → w'.os = w.os → w'.tape = w.tape → w'.output = w.output → w.heap.size ≤ w'.heap.size → (∀ k, k < w.heap.size → k ≠ b' → w'.heap[k]? = w.heap[k]?) →
      ((h 50001).blk = some b' ∨ (w.heap.size ≤ b' ∧ b' < w'.heap.size)) → w'.heap[b']? = some (.cells cur' 92 (0, 0)) → cur'.size = cap' * 4 → cap' ≤ maxLen → es.length + 1 ≤ cap' → (∀ q, q < (es.length + 1) * 4 → cur'[q]? = (cs.take (i * 4) ++ vs ++ cs.drop (i * 4))[q]?) →
      ∃ v ok' h', Ending.returned (.slice (some ⟨b', 0, none⟩) (es.length + 1) cap') = .returned v ∧ Lw.Left [(50001, .own 92 4 (true, z) es), (50002, .own 92 4 (true, z2) [x])] [(50001, .own 92 4 (true, z) (es.take i ++ x :: es.drop i))] (.os 50001 (es.length + 1)) ok h w ok' h' w' v := fun w' b' cap' cur' cs hcs k1 k2 k3 k4 k5 k6 k7 k8 k9 k10 k11 => by
    have hrr := ins_rows hcs hxr hi
    try simp only [Nat.mul_one] at hrr
    refine ⟨_, ok, _, rfl, left_row hok hlies rfl k1 k2 k3 k4 k5 k6 k7 k8 k9 (by rw [hlen']; exact k10) k10 (hrr.own fun q hq => k11 q ?_)⟩
    rw [hrr.1, hlen'] at hq
    omega
  have nothing : ∀ (cs : List Value), cs.length = es.length * 4 → ∀ q, (cs.take (i * 4) ++ vs ++ cs.drop (i * 4))[q]? = if q < i * 4 then cs[q]? else if q < (i + 1) * 4 then vs[q - i * 4]? else cs[q - 4]? := fun cs hl q => by
    have htl : (cs.take (i * 4)).length = i * 4 := by rw [List.length_take]; omega
    by_cases q1 : q < i * 4
    · rw [if_pos q1, List.append_assoc, List.getElem?_append_left (by omega), List.getElem?_take, if_pos q1]
    · rw [if_neg q1]
      by_cases q2 : q < (i + 1) * 4
      · rw [if_pos q2, List.append_assoc, List.getElem?_append_right (by omega), List.getElem?_append_left (by omega), htl]
      · rw [if_neg q2, List.append_assoc, List.getElem?_append_right (by omega), List.getElem?_append_right (by omega), List.getElem?_drop, htl]
        congr 1
        omega
  rcases ho1 with ⟨e1, e2, e3⟩ | ⟨b, cur, fz, f1, f2, f3, f4, f5, f6, f7⟩
  · subst e2
    simp only [List.length_nil, Nat.le_zero_eq] at hi
    subst hi
    have ha : (h 50001).addr = (none : Option Nat).map fun b => ⟨b, 0, none⟩ := by simp [Hd.addr, e1]
    rw [ha, e3]
    refine (insH_end_grow none 0 0 vb _ [] vs w (by omega) (by omega) (by omega) rfl (by omega) (fun _ => rfl) (fun b hb => by cases hb) hvs hxo).mono ?_
    rintro e w' ⟨rfl, zc, hzc, rfl⟩
    have hG := grownCap_ge w 1 0 92
    have hGm := grownCap_le_maxLen w 1 0 92 (by unfold maxLen; omega)
    refine fresh _ w.heap.size (grownCap w 1 0 92) _ [] ⟨rfl, fun j l hj => by simp at hj⟩ rfl rfl rfl (by show w.heap.size ≤ (w.heap.push _).size; simp) (fun k hk _ => by show (w.heap.push _)[k]? = _; rw [Array.getElem?_push, if_neg (Nat.ne_of_lt hk)]) (.inr ⟨Nat.le_refl _, by show w.heap.size < (w.heap.push _).size; simp⟩) (heap_alloc_new w.drew _) ?_ hGm hG (fun q hq => ?_)
    · simp [Builtin.zeroCells, hzc, hxl]
      omega
    · simp only [List.length_nil] at hq
      rw [List.nil_append, Array.getElem?_append_left (by simp; omega)]
      simp
  · obtain rfl := f4 rfl
    have hfit : es.length * 4 ≤ cur.size := by rw [f6]; omega
    have hcr := own_cells (w := w) (ok := ok) f7 (by omega)
    try simp only [Nat.mul_one] at hcr
    have hco := rows_one hcr hes (by decide)
    have hcl := hcr.1
    try simp only [Nat.mul_one] at hcl
    have hcq : ∀ j, (cur.toList.take (es.length * 4))[j]? = if j < es.length * 4 then cur[j]? else none := fun j => by rw [List.getElem?_take]; simp
    have hcs : ∀ j v, (cur.toList.take (es.length * 4))[j]? = some v → w.cell? ⟨b, j, none⟩ = some v := fun j v hj => by
      rw [hcq] at hj
      split at hj
      · simpa [World.cell?, f2] using hj
      · cases hj
    generalize cur.toList.take (es.length * 4) = cs at hcr hco hcl hcs hcq
    obtain ⟨hblt, hbok⟩ := hlies.blk 50001 _ b rfl f1
    have hvb : vb ≠ b := fun e => hlies.apart 50001 50002 _ _ b rfl rfl (by decide) f1 (by rw [g1, e])
    have ha1 : (h 50001).addr = (some b).map fun b => ⟨b, 0, none⟩ := by simp [Hd.addr, f1]
    have hcell : ∀ j, j < cur.size → (w.cell? ⟨b, j, none⟩).isSome = true := fun j hj => by simp [World.cell?, f2, hj]
    have hfro : ∀ j, w.frozen? ⟨b, j, none⟩ = false := fun j => by simp [World.frozen?, f2]
    have hnth := nothing cs hcl
    rw [ha1]
    by_cases hroom : es.length + 1 ≤ (h 50001).cap
    · have hsz : (es.length + 1) * 4 ≤ cur.size := by rw [f6]; omega
      by_cases hin : i = es.length
      · subst hin
        refine (insH_end_room b es.length _ vb _ vs w hroom (by have := hm1; unfold maxLen at this; omega) (by omega) (fun j hj => hcell _ (by omega)) (fun j hj => hfro _) hvs hxo).mono ?_
        rintro e w' ⟨rfl, rfl⟩
        obtain ⟨cur', c1, c2, c3⟩ := heap_setCells b 92 (0, 0) vs (es.length * 4) cur w f2 (by omega)
        obtain ⟨d1, d2, d3, d4, d5⟩ := setCells_frame b vs (es.length * 4) w
        refine fresh _ b (h 50001).cap cur' cs hcr d1 d2 d3 (by omega) (fun k _ hk => d5 k hk) (.inl f1) c1 (by omega) hm1 hroom (fun q hq => ?_)
        rw [c3, hnth]
        by_cases q1 : q < es.length * 4
        · rw [if_neg (by omega), if_pos q1, hcq, if_pos q1]
        · rw [if_pos (by omega), if_neg q1, if_pos hq]
      · refine (insH_shift b es.length _ i vb _ cs vs w (by omega) hroom (by have := hm1; unfold maxLen at this; omega) hvb hcl (by omega) hcs (fun j hj => hcell _ (by omega)) (fun j hj => hfro _) hvs hco hxo _ 92 _ cur.size hsa (by simp [World.shape?, f2]) (by omega) hfa hfe).mono ?_
        rintro e w' ⟨rfl, rfl⟩
        have hdl : (cs.drop (i * 4)).length = es.length * 4 - i * 4 := by rw [List.length_drop, hcl]
        obtain ⟨cur1, c1, c2, c3⟩ := heap_setCells b 92 (0, 0) (cs.drop (i * 4)) ((i + 1) * 4) cur w.drew f2 (by omega)
        obtain ⟨d1, d2, d3, d4, d5⟩ := setCells_frame b (cs.drop (i * 4)) ((i + 1) * 4) w.drew
        obtain ⟨cur', c4, c5, c6⟩ := heap_setCells b 92 (0, 0) vs (i * 4) cur1 _ c1 (by omega)
        obtain ⟨d6, d7, d8, d9, d10⟩ := setCells_frame b vs (i * 4) (w.drew.setCells b ((i + 1) * 4) (cs.drop (i * 4)))
        refine fresh _ b (h 50001).cap cur' cs hcr (d6.trans d1) (d7.trans d2) (d8.trans d3) (by rw [d9, d4]; exact Nat.le_refl _) (fun k _ hk => (d10 k hk).trans (d5 k hk)) (.inl f1) c4 (by omega) hm1 hroom (fun q hq => ?_)
        rw [c6, c3, hnth]
        by_cases q1 : q < i * 4
        · rw [if_neg (by omega), if_neg (by omega), if_pos q1, hcq, if_pos (by omega)]
        · by_cases q2 : q < (i + 1) * 4
          · rw [if_pos (by omega), if_neg q1, if_pos q2]
          · rw [if_neg (by omega), if_pos (by omega), if_neg q1, if_neg q2, List.getElem?_drop]
            congr 1
            omega
    · have hG := grownCap_ge w (es.length + 1) (h 50001).cap 92
      have hGm := grownCap_le_maxLen w (es.length + 1) (h 50001).cap 92 (by unfold maxLen; omega)
      by_cases hin : i = es.length
      · subst hin
        refine (insH_end_grow (some b) es.length _ vb _ cs vs w (by omega) (by omega) hbig hcl (by omega) (fun e => by cases e) (fun b' hb' => by cases hb'; exact hcs) hvs hxo).mono ?_
        rintro e w' ⟨rfl, zc, hzc, rfl⟩
        refine fresh _ w.heap.size (grownCap w (es.length + 1) (h 50001).cap 92) _ cs hcr rfl rfl rfl (by show w.heap.size ≤ (w.heap.push _).size; simp) (fun k hk _ => by show (w.heap.push _)[k]? = _; rw [Array.getElem?_push, if_neg (Nat.ne_of_lt hk)]) (.inr ⟨Nat.le_refl _, by show w.heap.size < (w.heap.push _).size; simp⟩) (heap_alloc_new w.drew _) ?_ hGm hG (fun q hq => ?_)
        · simp [Builtin.zeroCells, hzc, hxl, hcl]
          omega
        · rw [Array.getElem?_append_left (by simp; omega)]
          have ht : cs.take (es.length * 4) = cs := List.take_of_length_le (by omega)
          have hdr : cs.drop (es.length * 4) = [] := List.drop_eq_nil_of_le (by omega)
          rw [ht, hdr]
          simp
      · refine (insH_grow b es.length _ i vb _ cs vs w (by omega) (by omega) (by omega) hbig hcl (by omega) hblt hvlt hcs hvs hco hxo).mono ?_
        rintro e w' ⟨rfl, zc, hzc, rfl⟩
        have hdl : (cs.drop (i * 4)).length = es.length * 4 - i * 4 := by rw [List.length_drop, hcl]
        have htl : (cs.take (i * 4)).length = i * 4 := by rw [List.length_take]; omega
        generalize hROW : (cs.take (i * 4)).toArray ++ Builtin.zeroCells zc (es.length + 1 - i) ++ Builtin.zeroCells zc (grownCap w (es.length + 1) (h 50001).cap 92 - (es.length + 1)) = ROW
        have hRs : ROW.size = grownCap w (es.length + 1) (h 50001).cap 92 * 4 := by
          rw [← hROW]
          simp [Builtin.zeroCells, hzc]
          omega
        have hR1 : ∀ q, q < i * 4 → ROW[q]? = cs[q]? := fun q hq => by
          rw [← hROW, Array.append_assoc, Array.getElem?_append_left (by simp; omega)]
          simp [hq]
        have h0 : ((w.alloc (.cells ROW 92)).drew).heap[w.heap.size]? = some (.cells ROW 92 (0, 0)) := heap_alloc_new w _
        obtain ⟨cur1, c1, c2, c3⟩ := heap_setCells w.heap.size 92 (0, 0) vs (i * 4) ROW _ h0 (by omega)
        obtain ⟨d1, d2, d3, d4, d5⟩ := setCells_frame w.heap.size vs (i * 4) ((w.alloc (.cells ROW 92)).drew)
        obtain ⟨cur', c4, c5, c6⟩ := heap_setCells w.heap.size 92 (0, 0) (cs.drop (i * 4)) ((i + 1) * 4) cur1 (((w.alloc (.cells ROW 92)).drew.setCells w.heap.size (i * 4) vs).drew) c1 (by omega)
        obtain ⟨d6, d7, d8, d9, d10⟩ := setCells_frame w.heap.size (cs.drop (i * 4)) ((i + 1) * 4) (((w.alloc (.cells ROW 92)).drew.setCells w.heap.size (i * 4) vs).drew)
        have hsz4 : ((w.alloc (.cells ROW 92)).drew).heap.size = w.heap.size + 1 := by show (w.heap.push _).size = _; simp
        have hd9 : ((((w.alloc (.cells ROW 92)).drew.setCells w.heap.size (i * 4) vs).drew).setCells w.heap.size ((i + 1) * 4) (cs.drop (i * 4))).heap.size = w.heap.size + 1 := d9.trans (d4.trans hsz4)
        refine fresh _ w.heap.size (grownCap w (es.length + 1) (h 50001).cap 92) cur' cs hcr (d6.trans d1) (d7.trans d2) (d8.trans d3) (by omega) (fun k hk hne => (d10 k hne).trans ((d5 k hne).trans (by show (w.heap.push _)[k]? = _; rw [Array.getElem?_push, if_neg (Nat.ne_of_lt hk)]))) (.inr ⟨Nat.le_refl _, by omega⟩) c4 (by omega) hGm hG (fun q hq => ?_)
        rw [c6, c3, hnth]
        by_cases q1 : q < i * 4
        · rw [if_neg (by omega), if_neg (by omega), if_pos q1, hR1 q q1]
        · by_cases q2 : q < (i + 1) * 4
          · rw [if_neg (by omega), if_pos (by omega), if_neg q1, if_pos q2]
          · rw [if_pos (by omega), if_neg q1, if_neg q2, List.getElem?_drop]
            congr 1
            omega
end Go.Proofs.YtnainpghpjelcaaGreatDoor
/-
  FRONTIER: Take (program). (WITH run_drawN.)
-/
set_option linter.unusedSimpArgs false
set_option linter.unusedVariables false
namespace Go.Proofs.YtnainpghpjelcaaGreatDoor
open Go.Lw Go.RowKit
set_option maxRecDepth 100000
set_option maxHeartbeats 8000000

theorem insHN_ok (H : List Hst) (s : Bs) (z2 : List D) (p : Nat) (hp : p ≤ H.length) (hl : H.length ≤ 300) :
    FnMem Tryz.prog 109 [.os 50001 H.length, .d (int p), .os 50002 1] [(50001, .own 92 4 (true, [str [], int 0, tru false, noSt]) (H.map hstCells)), (50002, .own 92 4 (true, z2) [[str s, int 0, tru false, .lit (.slice none 0 0)]])]
      (.os 50001 (H.length + 1)) [(50001, .own 92 4 (true, [str [], int 0, tru false, noSt]) (((H.map toHD).take p ++ (s, 0, false, D.lit (.slice none 0 0)) :: (H.map toHD).drop p).map hdCells))] := by
  have h := insH_ok (H.map hstCells) [str s, int 0, tru false, .lit (.slice none 0 0)] p [str [], int 0, tru false, noSt] z2 (by simp) (by simp) (by simpa using hp) (by simp; omega)
  have e : ((H.map toHD).take p ++ (s, 0, false, D.lit (.slice none 0 0)) :: (H.map toHD).drop p).map hdCells = (H.map hstCells).take p ++ [str s, int 0, tru false, .lit (.slice none 0 0)] :: (H.map hstCells).drop p := by
    rw [← map_toHD]
    simp
  rw [e]
  simpa using h
theorem insM_at (M : List HstD) (x : HstD) {p : Nat} (hp : p ≤ M.length) : (M.take p ++ x :: M.drop p)[p]? = some x := by
  rw [List.getElem?_append_right (by simp; omega)]
  simp [Nat.min_eq_left hp]
theorem insM_len (M : List HstD) (x : HstD) {p : Nat} (hp : p ≤ M.length) : (M.take p ++ x :: M.drop p).length = M.length + 1 := by
  simp; omega
/-- A host that was not there, asked. -/
abbrev tkN (s : Bs) (t : Int) : Hst := (s, 0, true, [t])
theorem takeRowsN (H : List Hst) (x : HstD) {p : Nat} (hp : p ≤ H.length) (s : Bs) (t : Int) : ((((H.map toHD).take p ++ x :: (H.map toHD).drop p)).map hdCells).set p (hstCells (tkN s t)) = (H.take p ++ tkN s t :: H.drop p).map hstCells := by
  have e : hstCells (tkN s t) = hdCells (toHD (tkN s t)) := rfl
  rw [e, ← List.map_set, ← map_toHD]
  congr 1
  rw [List.set_append_right _ _ (by simp; omega)]
  simp [Nat.min_eq_left hp, List.map_take, List.map_drop]
theorem frTakeN_ok (f : Frt) (t : Int) (hf : FrOk f) (h0 : atE f t = 0) (h1 : 0 ≤ takeN f t) (h2 : hThere f (tkS f t) = false) : FnOk Tryz.prog 44 [frD f, int t] (takeD f t) := by
  refine fnOk Tryz.func44 rfl (by kernel_rfl) Tryz.ntmps44 _ rfl (by simp) fun C hc => ?_
  obtain ⟨hg, ht⟩ := atE_good h0
  have hA := checkAt_ok f t hf
  have hN := next_ok f t hg
  rw [h0] at hA
  obtain ⟨hi, hr⟩ : (takeN f t).toNat < f.items.length ∧ rdyP f t (wntAt f.items (takeN f t).toNat) = true := by
    rcases takeN_spec f t with h | h
    · omega
    · exact h.2
  have hE : takeE f t = if 300 ≤ f.hosts.length then 16 else 0 := by
    unfold takeE
    rw [if_neg (fun e => e h0), if_neg (by omega), if_neg (by rw [h2]; decide)]
  have hp : hLb f (tkS f t) ≤ f.hosts.length := (lbB_spec (nameAt f.hosts) f.hosts.length (tkS f t)).1
  have hwk := wnt_key (hg.wnt _ hi)
  have hH := frHostOf_ok (tkW f t).1 (of_has hwk.1) (by have := hf.keys (takeN f t).toNat; unfold tkW; omega)
  have hO := frOwn_ok f hg.items hg.hosts hg.many
  obtain ⟨i, hin⟩ : ∃ i : Nat, takeN f t = i := ⟨(takeN f t).toNat, by omega⟩
  have hF : FnOk Tryz.prog 87 [frD f, str (tkS f t)] (.tup [int (hLb f (tkS f t)), tru false]) := by
    have h := find_ok f (tkS f t) hg.hosts hg.names
    have h2' : thereB (nameAt f.hosts) f.hosts.length (tkS f t) = false := h2
    rw [h2'] at h
    exact h
  have hw := hg.window
  have hil := hg.items
  have hhl := hg.hosts
  unfold takeD
  rw [hE]
  have eI : (takeF f t).items = f.items.eraseIdx i := by show f.items.eraseIdx (takeN f t).toNat = _; rw [hin]; rfl
  have eH : (takeF f t).hosts = f.hosts.take (hLb f (tkS f t)) ++ tkN (tkS f t) t :: f.hosts.drop (hLb f (tkS f t)) := by
    show takeH f t (tkS f t) = _
    unfold takeH; rw [if_neg (by rw [h2]; decide)]
  have eW : tkW f t = wntAt f.items i := by unfold tkW; rw [hin]; rfl
  change FnOk _ _ _ (int (takeN f t)) at hN
  rw [hin] at hN
  have hdel := deleteW_ok f.items i (by omega) hg.items
  have hfd : frD (takeF f t) = .agg [wntSl (takeF f t).items, hstSl (takeF f t).hosts, int f.budget, int f.window] := rfl
  rw [hfd, eI, eH, eW]
  rw [eW] at hH
  have hs : tkS f t = hostK (wntAt f.items i).1 := by unfold tkS; rw [eW]
  rw [← hs] at hH
  unfold owV at hO
  have hi' : i < f.items.length := by omega
  clear hfd eI eH eW h0 h1 h2 hE hr hi hs hwk hg
  generalize tkS f t = s at *
  generalize hLb f s = k at *
  obtain ⟨I, H, bu, wi⟩ := f
  simp only at *
  by_cases hfull : 300 ≤ H.length
  · rw [if_pos hfull, if_pos (show (16 : Nat) ≠ 0 by decide)]
    repeat' (first | (first | refine Ya ?_ | refine Yb ?_ | refine Yc ?_ | refine Yd ?_ | refine Ye ?_ | refine Yf ?_ | refine Yg ?_ | refine Yh ?_ | refine Yi ?_ | refine Yj ?_ | refine Yk ?_ | refine Yl ?_ | refine Ym ?_ | refine Yn ?_ | refine Yo ?_ | refine Yp (h := ?_) | refine Yq ?_ | refine Yr ?_ | refine Ys ?_ | refine Zr hc (hk := ?_) | refine Zd hc (hk := ?_) | (refine Zc (ht := fun hb => ?_) (hf := fun hb => ?_) <;> (try simp at hb)) | fail) | (first | refine Zw hc (hf := by first | exact hA | exact hN) (hk := ?_) | refine Zq hc (hf := by first | exact hA | exact hN) (hk := ?_) | refine Zo hc (hk := ?_) | refine Zu hc (hk := ?_) | refine Ze hc (hk := ?_) | fail) | ((first | refine run_callM ([(40001, 40001), (40002, 40002)]) (hO) hc (by simp; exact Gives.mk) (by simp; exact Gives.mk) (by simp; exact Gives.mk) (by simp; exact Gives.mk) (by simp; exact Gives.mk) rfl (by simp; exact Gives.mk) (by simp; exact Gives.mk) rfl (by simp) (by simp) (by simp; exact Gives.mk) (by simp; exact Gives.mk) ?_ | fail)))
    all_goals try contradiction
    all_goals try (exfalso; omega)
    refine Zn hc (hk := ?_)
    repeat' (first | (first | refine Ya ?_ | refine Yb ?_ | refine Yc ?_ | refine Yd ?_ | refine Ye ?_ | refine Yf ?_ | refine Yg ?_ | refine Yh ?_ | refine Yi ?_ | refine Yj ?_ | refine Yk ?_ | refine Yl ?_ | refine Ym ?_ | refine Yn ?_ | refine Yo ?_ | refine Yp (h := ?_) | refine Yq ?_ | refine Yr ?_ | refine Ys ?_ | refine Zr hc (hk := ?_) | refine Zd hc (hk := ?_) | (refine Zc (ht := fun hb => ?_) (hf := fun hb => ?_) <;> (try simp at hb)) | fail) | (first | refine Zw hc (hf := by first | exact hF | exact hH) (hk := ?_) | refine Zq hc (hf := by first | exact hF | exact hH) (hk := ?_) | refine Zo hc (hk := ?_) | refine Zu hc (hk := ?_) | refine Ze hc (hk := ?_) | fail))
    all_goals try contradiction
    all_goals try (exfalso; omega)
    (refine Zl hc (hr := ?_))
    simp [frNo]
  rw [if_neg hfull, if_neg (show ¬ (0 : Nat) ≠ 0 by decide)]
  repeat' (first | (first | refine Ya ?_ | refine Yb ?_ | refine Yc ?_ | refine Yd ?_ | refine Ye ?_ | refine Yf ?_ | refine Yg ?_ | refine Yh ?_ | refine Yi ?_ | refine Yj ?_ | refine Yk ?_ | refine Yl ?_ | refine Ym ?_ | refine Yn ?_ | refine Yo ?_ | refine Yp (h := ?_) | refine Yq ?_ | refine Yr ?_ | refine Ys ?_ | refine Zr hc (hk := ?_) | refine Zd hc (hk := ?_) | (refine Zc (ht := fun hb => ?_) (hf := fun hb => ?_) <;> (try simp at hb)) | fail) | (first | refine Zw hc (hf := by first | exact hA | exact hN) (hk := ?_) | refine Zq hc (hf := by first | exact hA | exact hN) (hk := ?_) | refine Zo hc (hk := ?_) | refine Zu hc (hk := ?_) | refine Ze hc (hk := ?_) | fail) | ((first | refine run_callM ([(40001, 40001), (40002, 40002)]) (hO) hc (by simp; exact Gives.mk) (by simp; exact Gives.mk) (by simp; exact Gives.mk) (by simp; exact Gives.mk) (by simp; exact Gives.mk) rfl (by simp; exact Gives.mk) (by simp; exact Gives.mk) rfl (by simp) (by simp) (by simp; exact Gives.mk) (by simp; exact Gives.mk) ?_ | fail)))
  all_goals try contradiction
  all_goals try (exfalso; omega)
  refine Zn hc (hk := ?_)
  repeat' (first | (first | refine Ya ?_ | refine Yb ?_ | refine Yc ?_ | refine Yd ?_ | refine Ye ?_ | refine Yf ?_ | refine Yg ?_ | refine Yh ?_ | refine Yi ?_ | refine Yj ?_ | refine Yk ?_ | refine Yl ?_ | refine Ym ?_ | refine Yn ?_ | refine Yo ?_ | refine Yp (h := ?_) | refine Yq ?_ | refine Yr ?_ | refine Ys ?_ | refine Zr hc (hk := ?_) | refine Zd hc (hk := ?_) | (refine Zc (ht := fun hb => ?_) (hf := fun hb => ?_) <;> (try simp at hb)) | fail) | (first | refine Zw hc (hf := by first | exact hF | exact hH) (hk := ?_) | refine Zq hc (hf := by first | exact hF | exact hH) (hk := ?_) | refine Zo hc (hk := ?_) | refine Zu hc (hk := ?_) | refine Ze hc (hk := ?_) | fail))
  all_goals try contradiction
  all_goals try (exfalso; omega)
  have hx : ∃ x : HstD, x = (s, 0, false, D.lit (.slice none 0 0)) := ⟨_, rfl⟩
  obtain ⟨x, hx⟩ := hx
  subst hx
  have hIn := insHN_ok H s [str [], int 0, tru false, D.lit (.slice none 0 0)] k hp hhl
  have hrw := takeRowsN H (s, 0, false, D.lit (.slice none 0 0)) hp s t
  have hat := insM_at (H.map toHD) (s, 0, false, D.lit (.slice none 0 0)) (p := k) (by simpa using hp)
  have hln := insM_len (H.map toHD) (s, 0, false, D.lit (.slice none 0 0)) (p := k) (by simpa using hp)
  simp only [List.length_map] at hln
  generalize (H.map toHD).take k ++ (s, 0, false, D.lit (.slice none 0 0)) :: (H.map toHD).drop k = M at *
  refine ewp_le (run_keep [2, 3, 4, 5, 8, 9, 10] [2, 3, 4, 5, 9, 40001, 40002] (by simp; exact Gives.mk) (by simp; exact Gives.mk)) ?_
  (apply run_drawAny 11 hc (by kernel_rfl) rfl; (focus (refine run_anyP 0 hc rfl (by kernel_rfl) rfl (by simp; exact Gives.mk) (by first | exact True.intro | omega | (simp; done) | (simp; omega) | (simp at *; omega)) (by simp) (by simp) (by simp; exact Gives.mk) ?_; refine run_anyM 2 hc rfl (by kernel_rfl) rfl (by first | exact .inl rfl | exact .inr rfl) (by simp; exact Gives.mk) (by simp) (by simp; exact Gives.mk) ?_; refine run_anyP 3 hc rfl (by kernel_rfl) rfl (by simp; exact Gives.mk) (by first | exact True.intro | omega | (simp; done) | (simp; omega) | (simp at *; omega)) (by simp) (by simp) (by simp; exact Gives.mk) ?_; refine anyW_all [1, 4] (by kernel_rfl) rfl ?_; refine ⟨?_, ?_⟩; (focus (refine run_stepW hc rfl (by simp; exact Ends.go) (by first | exact True.intro | omega | (simp; done) | (simp; omega) | (simp at *; omega)) ?q160; refine anyW_all [4] (by kernel_rfl) rfl ?nq160; (focus (refine run_stepW hc rfl (by simp; exact Ends.go) (by first | exact True.intro | omega | (simp; done) | (simp; omega) | (simp at *; omega)) ?q161; refine anyW_all [5] (by kernel_rfl) rfl ?nq161; (focus (refine run_stepC hc rfl rfl (by simp; exact Gives.mk) (by simp; exact Gives.mk) (by simp; exact Gives.mk) (by simp; exact Gives.mk) (by simp; exact Gives.mk) (fun _ => hH) (by simp) (by simp) ?q162; refine run_anyP 6 hc rfl (by kernel_rfl) rfl (by simp; exact Gives.mk) (by first | exact True.intro | omega | (simp; done) | (simp; omega) | (simp at *; omega)) (by simp) (by simp) (by simp; exact Gives.mk) ?nq162; refine anyW_all [7] (by kernel_rfl) rfl ?_; (focus (refine run_stepW hc rfl (by simp; exact Ends.go) (by first | exact True.intro | omega | (simp; done) | (simp; omega) | (simp at *; omega)) ?q163; refine anyW_all [8] (by kernel_rfl) rfl ?nq163; (focus (refine run_stepM ([(50001, 40002), (50002, 79)]) (hIn) hc rfl (by simp; exact Gives.mk) (by simp; exact Gives.mk) (by simp; exact Gives.mk) (by simp; exact Gives.mk) (by simp; exact Gives.mk) rfl (by simp; exact Gives.mk) (by simp; exact Gives.mk) rfl (by simp) (by simp) (by simp; exact Gives.mk) (by simp; exact Gives.mk) ?q164; refine run_anyP 9 hc rfl (by kernel_rfl) rfl (by simp; exact Gives.mk) (by first | exact True.intro | omega | (simp; done) | (simp; omega) | (simp at *; omega)) (by simp) (by simp) (by simp; exact Gives.mk) ?nq164; refine anyW_all [10] (by kernel_rfl) rfl ?_; (focus (refine run_stepW hc rfl (by simp; exact Ends.go) (by first | exact True.intro | omega | (simp; done) | (simp; omega) | (simp at *; omega)) ?q165; refine anyW_done (by kernel_rfl) ?nq165; exact run_keep [2, 3, 4, 5, 8, 9, 10] [2, 3, 4, 5, 9, 40001, 40002] (by simp; try exact Gives.mk) (by simp; try exact Gives.mk))))))))))))); (focus (refine run_stepW hc rfl (by simp; exact Ends.go) (by first | exact True.intro | omega | (simp; done) | (simp; omega) | (simp at *; omega)) ?q166; refine anyW_all [1, 5] (by kernel_rfl) rfl ?nq166; refine ⟨?_, ?_⟩; (focus (refine run_stepW hc rfl (by simp; exact Ends.go) (by first | exact True.intro | omega | (simp; done) | (simp; omega) | (simp at *; omega)) ?_; exact anyW_le (run_back [2, 3, 4, 5, 8, 9, 10, 72, 74, 75, 73, 76] [2, 3, 4, 5, 9, 40001, 40002] (by simp; exact Gives.mk) (by simp; exact Gives.mk) (by simp)) ?q161)); (focus (refine run_stepC hc rfl rfl (by simp; exact Gives.mk) (by simp; exact Gives.mk) (by simp; exact Gives.mk) (by simp; exact Gives.mk) (by simp; exact Gives.mk) (fun _ => hH) (by simp) (by simp) ?q167; refine run_anyP 6 hc rfl (by kernel_rfl) rfl (by simp; exact Gives.mk) (by first | exact True.intro | omega | (simp; done) | (simp; omega) | (simp at *; omega)) (by simp) (by simp) (by simp; exact Gives.mk) ?nq167; refine anyW_all [1, 7] (by kernel_rfl) rfl ?_; refine ⟨?_, ?_⟩; (focus (refine run_stepW hc rfl (by simp; exact Ends.go) (by first | exact True.intro | omega | (simp; done) | (simp; omega) | (simp at *; omega)) ?q168; refine anyW_all [7] (by kernel_rfl) rfl ?nq168; (focus (refine run_stepW hc rfl (by simp; exact Ends.go) (by first | exact True.intro | omega | (simp; done) | (simp; omega) | (simp at *; omega)) ?_; exact anyW_le (run_back [2, 3, 4, 5, 8, 9, 10, 72, 74, 75, 73, 76, 77, 78, 79] [2, 3, 4, 5, 9, 40001, 40002, 79] (by simp; exact Gives.mk) (by simp; exact Gives.mk) (by simp)) ?q163)))); (focus (refine run_stepW hc rfl (by simp; exact Ends.go) (by first | exact True.intro | omega | (simp; done) | (simp; omega) | (simp at *; omega)) ?q169; refine anyW_all [1] (by kernel_rfl) rfl ?nq169; (focus (refine run_stepW hc rfl (by simp; exact Ends.go) (by first | exact True.intro | omega | (simp; done) | (simp; omega) | (simp at *; omega)) ?_; exact anyW_le (run_back [2, 3, 4, 5, 8, 9, 10, 72, 74, 75, 73, 76, 77, 78, 79] [2, 3, 4, 5, 9, 40001, 40002, 79] (by simp; exact Gives.mk) (by simp; exact Gives.mk) (by simp)) ?q163)))))))))))
  repeat' (first | (first | refine Ya ?_ | refine Yb ?_ | refine Yc ?_ | refine Yd ?_ | refine Ye ?_ | refine Yf ?_ | refine Yg ?_ | refine Yh ?_ | refine Yi ?_ | refine Yj ?_ | refine Yk ?_ | refine Yl ?_ | refine Ym ?_ | refine Yn ?_ | refine Yo ?_ | refine Yp (h := ?_) | refine Yq ?_ | refine Yr ?_ | refine Ys ?_ | refine Zr hc (hk := ?_) | refine Zd hc (hk := ?_) | (refine Zc (ht := fun hb => ?_) (hf := fun hb => ?_) <;> (try simp at hb)) | fail) | (first | refine Zo hc (hk := ?_) | refine Zu hc (hk := ?_) | refine Ze hc (hk := ?_) | fail))
  all_goals try contradiction
  all_goals try (exfalso; omega)
  (first | refine run_sealW 3 hc (by simp; exact Gives.mk) (by simp) ?_ | refine run_seal 3 hc (by simp; exact Gives.mk) (by simp) ?_)
  refine ewp_le (run_keep [2, 3, 4, 5, 8, 9, 13] [2, 4, 5, 9, 40001, 40002] (by simp; exact Gives.mk) (by simp; exact Gives.mk)) ?_
  have hM2 : (List.map hdCells M).set k [str (M[k]?.getD hd0).1, int (M[k]?.getD hd0).2.1, D.lit (Value.bool true), (M[k]?.getD hd0).2.2.2] = (M.set k (s, 0, true, D.lit (.slice none 0 0))).map hdCells := by rw [List.map_set, hat]; rfl
  have hrow2 : (M.set k (s, 0, true, D.lit (.slice none 0 0)))[k]? = some (s, 0, true, D.lit (.slice none 0 0)) := by rw [List.getElem?_set_self (by omega)]
  have hlen2 : (M.set k (s, 0, true, D.lit (.slice none 0 0))).length = H.length + 1 := by simp [hln]
  have hset2 : ((M.set k (s, 0, true, D.lit (.slice none 0 0))).map hdCells).set k (hstCells (tkN s t)) = (H.take k ++ tkN s t :: H.drop k).map hstCells := by rw [← hrw, List.map_set, List.set_set]
  rw [hM2]
  have hD := delNo_ok t bu wi (H.length + 1) I (M.set k (s, 0, true, D.lit (.slice none 0 0))) ht hw
  rw [hlen2] at hD
  generalize M.set k (s, 0, true, D.lit (.slice none 0 0)) = M2 at *
  have hDx : FnMem Tryz.prog 110 [.d ((M2[k]?.getD hd0).2.2.2), tkClo t] [tkBx I.length (H.length + 1) bu wi, tkW2 I, tkH2 M2] (.d (.lit (.slice none 0 0))) [tkBx I.length (H.length + 1) bu wi, tkW2 I, tkH2 M2] := by rw [hrow2]; exact hD
  clear hF hH hN hA hrw hat hIn hD
  unfold okM at ht
  (apply run_drawAny 13 hc (by kernel_rfl) rfl; (focus (refine run_anyM 0 hc rfl (by kernel_rfl) rfl (by first | exact .inl rfl | exact .inr rfl) (by simp; exact Gives.mk) (by simp) (by simp; exact Gives.mk) ?_; refine run_anyM 1 hc rfl (by kernel_rfl) rfl (by first | exact .inl rfl | exact .inr rfl) (by simp; exact Gives.mk) (by simp) (by simp; exact Gives.mk) ?_; refine run_anyP 2 hc rfl (by kernel_rfl) rfl (by simp; exact Gives.mk) (by first | exact True.intro | omega | (simp; done) | (simp; omega) | (simp at *; omega)) (by simp) (by simp) (by simp; exact Gives.mk) ?_; refine run_anyP 3 hc rfl (by kernel_rfl) rfl (by simp; exact Gives.mk) (by first | exact True.intro | omega | (simp; done) | (simp; omega) | (simp at *; omega)) (by simp) (by simp) (by simp; exact Gives.mk) ?_; refine anyW_all [4, 5, 7] (by kernel_rfl) rfl ?_; refine ⟨?_, ?_, ?_⟩; (focus (refine run_stepW hc rfl (by simp; exact Ends.go) (by first | exact True.intro | omega | (simp; done) | (simp; omega) | (simp at *; omega)) ?q190; refine anyW_all [5, 7] (by kernel_rfl) rfl ?nq190; refine ⟨?_, ?_⟩; (focus (refine run_stepW hc rfl (by simp; exact Ends.go) (by first | exact True.intro | omega | (simp; done) | (simp; omega) | (simp at *; omega)) ?q191; refine anyW_all [6, 7] (by kernel_rfl) rfl ?nq191; refine ⟨?_, ?_⟩; (focus (refine run_stepM ([(100000, 2), (100001, 40001), (100002, 40002)]) (hDx) hc rfl (by simp; exact Gives.mk) (by simp; exact Gives.mk) (by simp; exact Gives.mk) (by simp; exact Gives.mk) (by simp; exact Gives.mk) rfl (by simp; exact Gives.mk) (by simp; exact Gives.mk) rfl (by simp) (by simp) (by simp; exact Gives.mk) (by simp; exact Gives.mk) ?q192; refine anyW_all [7] (by kernel_rfl) rfl ?nq192; (focus (refine run_stepW hc rfl (by simp; exact Ends.go) (by first | exact True.intro | omega | (simp; done) | (simp; omega) | (simp at *; omega)) ?q193; refine anyW_all [8] (by kernel_rfl) rfl ?nq193; (focus (refine run_stepW hc rfl (by simp; exact Ends.go) (by first | exact True.intro | omega | (simp; done) | (simp; omega) | (simp at *; omega)) ?q194; refine anyW_all [9] (by kernel_rfl) rfl ?nq194; (focus (refine run_stepW hc rfl (by simp; exact Ends.go) (by first | exact True.intro | omega | (simp; done) | (simp; omega) | (simp at *; omega)) ?_; refine anyW_seal 98 hc (by simp; exact Gives.mk) (by simp; try omega) ?q195; refine run_anyP 10 hc rfl (by kernel_rfl) rfl (by simp; exact Gives.mk) (by first | exact True.intro | omega | (simp; done) | (simp; omega) | (simp at *; omega)) (by simp) (by simp) (by simp; exact Gives.mk) ?nq195; refine run_anyP 11 hc rfl (by kernel_rfl) rfl (by simp; exact Gives.mk) (by first | exact True.intro | omega | (simp; done) | (simp; omega) | (simp at *; omega)) (by simp) (by simp) (by simp; exact Gives.mk) ?_; refine anyW_all [12] (by kernel_rfl) rfl ?_; (focus (refine run_stepW hc rfl (by simp; exact Ends.go) (by first | exact True.intro | omega | (simp; done) | (simp; omega) | (simp at *; omega)) ?q196; refine anyW_done (by kernel_rfl) ?nq196; exact run_keep [2, 4, 5, 8, 9] [2, 4, 5, 9, 40001, 40002] (by simp; try exact Gives.mk) (by simp; try exact Gives.mk))))))))))); (focus (refine run_stepW hc rfl (by simp; exact Ends.go) (by first | exact True.intro | omega | (simp; done) | (simp; omega) | (simp at *; omega)) ?q197; refine anyW_all [6, 8] (by kernel_rfl) rfl ?nq197; refine ⟨?_, ?_⟩; (focus (refine run_stepM ([(100000, 2), (100001, 40001), (100002, 40002)]) (hDx) hc rfl (by simp; exact Gives.mk) (by simp; exact Gives.mk) (by simp; exact Gives.mk) (by simp; exact Gives.mk) (by simp; exact Gives.mk) rfl (by simp; exact Gives.mk) (by simp; exact Gives.mk) rfl (by simp) (by simp) (by simp; exact Gives.mk) (by simp; exact Gives.mk) ?_; exact anyW_le (run_back [2, 3, 4, 5, 8, 9, 13, 89, 90, 91, 92, 93, 94, 95, 96] [2, 40001, 40002, 4, 5, 9] (by simp; exact Gives.mk) (by simp; exact Gives.mk) (by simp)) ?q193)); (focus (refine run_stepW hc rfl (by simp; exact Ends.go) (by first | exact True.intro | omega | (simp; done) | (simp; omega) | (simp at *; omega)) ?q198; refine anyW_all [6] (by kernel_rfl) rfl ?nq198; (focus (refine run_stepM ([(100000, 2), (100001, 40001), (100002, 40002)]) (hDx) hc rfl (by simp; exact Gives.mk) (by simp; exact Gives.mk) (by simp; exact Gives.mk) (by simp; exact Gives.mk) (by simp; exact Gives.mk) rfl (by simp; exact Gives.mk) (by simp; exact Gives.mk) rfl (by simp) (by simp) (by simp; exact Gives.mk) (by simp; exact Gives.mk) ?_; exact anyW_le (run_back [2, 3, 4, 5, 8, 9, 13, 89, 90, 91, 92, 93, 94, 95, 96, 97] [2, 40001, 40002, 4, 5, 9, 97] (by simp; exact Gives.mk) (by simp; exact Gives.mk) (by simp)) ?q194)))))))); (focus (refine run_stepW hc rfl (by simp; exact Ends.go) (by first | exact True.intro | omega | (simp; done) | (simp; omega) | (simp at *; omega)) ?q199; refine anyW_all [5, 8] (by kernel_rfl) rfl ?nq199; refine ⟨?_, ?_⟩; (focus (refine run_stepW hc rfl (by simp; exact Ends.go) (by first | exact True.intro | omega | (simp; done) | (simp; omega) | (simp at *; omega)) ?_; exact anyW_le (run_back [2, 3, 4, 5, 8, 9, 13, 89, 90, 91, 92, 93, 94, 96] [2, 4, 5, 9, 40001, 40002] (by simp; exact Gives.mk) (by simp; exact Gives.mk) (by simp)) ?q197)); (focus (refine run_stepW hc rfl (by simp; exact Ends.go) (by first | exact True.intro | omega | (simp; done) | (simp; omega) | (simp at *; omega)) ?q1910; refine anyW_all [5] (by kernel_rfl) rfl ?nq1910; (focus (refine run_stepW hc rfl (by simp; exact Ends.go) (by first | exact True.intro | omega | (simp; done) | (simp; omega) | (simp at *; omega)) ?_; exact anyW_le (run_back [2, 3, 4, 5, 8, 9, 13, 89, 90, 91, 92, 93, 94, 96, 97] [2, 4, 5, 9, 40001, 40002, 97] (by simp; exact Gives.mk) (by simp; exact Gives.mk) (by simp)) ?q198)))))))); (focus (refine run_stepW hc rfl (by simp; exact Ends.go) (by first | exact True.intro | omega | (simp; done) | (simp; omega) | (simp at *; omega)) ?q1911; refine anyW_all [4, 7] (by kernel_rfl) rfl ?nq1911; refine ⟨?_, ?_⟩; (focus (refine run_stepW hc rfl (by simp; exact Ends.go) (by first | exact True.intro | omega | (simp; done) | (simp; omega) | (simp at *; omega)) ?_; exact anyW_le (run_back [2, 3, 4, 5, 8, 9, 13, 89, 90, 91, 92, 93, 94] [2, 4, 5, 9, 40001, 40002] (by simp; exact Gives.mk) (by simp; exact Gives.mk) (by simp)) ?q191)); (focus (refine run_stepW hc rfl (by simp; exact Ends.go) (by first | exact True.intro | omega | (simp; done) | (simp; omega) | (simp at *; omega)) ?q1912; refine anyW_all [4, 8] (by kernel_rfl) rfl ?nq1912; refine ⟨?_, ?_⟩; (focus (refine run_stepW hc rfl (by simp; exact Ends.go) (by first | exact True.intro | omega | (simp; done) | (simp; omega) | (simp at *; omega)) ?_; exact anyW_le (run_back [2, 3, 4, 5, 8, 9, 13, 89, 90, 91, 92, 93, 94, 96] [2, 4, 5, 9, 40001, 40002] (by simp; exact Gives.mk) (by simp; exact Gives.mk) (by simp)) ?q197)); (focus (refine run_stepW hc rfl (by simp; exact Ends.go) (by first | exact True.intro | omega | (simp; done) | (simp; omega) | (simp at *; omega)) ?q1913; refine anyW_all [4] (by kernel_rfl) rfl ?nq1913; (focus (refine run_stepW hc rfl (by simp; exact Ends.go) (by first | exact True.intro | omega | (simp; done) | (simp; omega) | (simp at *; omega)) ?_; exact anyW_le (run_back [2, 3, 4, 5, 8, 9, 13, 89, 90, 91, 92, 93, 94, 96, 97] [2, 4, 5, 9, 40001, 40002, 97] (by simp; exact Gives.mk) (by simp; exact Gives.mk) (by simp)) ?q198)))))))); (focus (refine run_stepW hc rfl (by simp; exact Ends.go) (by first | exact True.intro | omega | (simp; done) | (simp; omega) | (simp at *; omega)) ?q1914; refine anyW_all [4, 5, 8] (by kernel_rfl) rfl ?nq1914; refine ⟨?_, ?_, ?_⟩; (focus (refine run_stepW hc rfl (by simp; exact Ends.go) (by first | exact True.intro | omega | (simp; done) | (simp; omega) | (simp at *; omega)) ?_; exact anyW_le (run_back [2, 3, 4, 5, 8, 9, 13, 89, 90, 91, 92, 93, 96] [2, 4, 5, 9, 40001, 40002] (by simp; exact Gives.mk) (by simp; exact Gives.mk) (by simp)) ?q199)); (focus (refine run_stepW hc rfl (by simp; exact Ends.go) (by first | exact True.intro | omega | (simp; done) | (simp; omega) | (simp at *; omega)) ?_; exact anyW_le (run_back [2, 3, 4, 5, 8, 9, 13, 89, 90, 91, 92, 94, 96] [2, 4, 5, 9, 40001, 40002] (by simp; exact Gives.mk) (by simp; exact Gives.mk) (by simp)) ?q1912)); (focus (refine run_stepW hc rfl (by simp; exact Ends.go) (by first | exact True.intro | omega | (simp; done) | (simp; omega) | (simp at *; omega)) ?q1915; refine anyW_all [4, 5] (by kernel_rfl) rfl ?nq1915; refine ⟨?_, ?_⟩; (focus (refine run_stepW hc rfl (by simp; exact Ends.go) (by first | exact True.intro | omega | (simp; done) | (simp; omega) | (simp at *; omega)) ?_; exact anyW_le (run_back [2, 3, 4, 5, 8, 9, 13, 89, 90, 91, 92, 93, 96, 97] [2, 4, 5, 9, 40001, 40002, 97] (by simp; exact Gives.mk) (by simp; exact Gives.mk) (by simp)) ?q1910)); (focus (refine run_stepW hc rfl (by simp; exact Ends.go) (by first | exact True.intro | omega | (simp; done) | (simp; omega) | (simp at *; omega)) ?_; exact anyW_le (run_back [2, 3, 4, 5, 8, 9, 13, 89, 90, 91, 92, 94, 96, 97] [2, 4, 5, 9, 40001, 40002, 97] (by simp; exact Gives.mk) (by simp; exact Gives.mk) (by simp)) ?q1913)))))))))
  have hrows : (List.map hdCells M2).set k [str (M2[k]?.getD hd0).1, int (M2[k]?.getD hd0).2.1, tru (M2[k]?.getD hd0).2.2.1, D.sl 1 fun i => [[int t]][i]?.getD [D.lit (Value.int IntKind.i64 0)]] = (H.take k ++ tkN s t :: H.drop k).map hstCells := by
    rw [← hset2, hrow2]
    have e : (fun i : Nat => [[int t]][i]?.getD [D.lit (Value.int IntKind.i64 0)]) = fun i : Nat => [int (([t] : List Int)[i]?.getD 0)] := by
      funext i
      cases i <;> rfl
    rw [e]
    rfl
  rw [hrows]
  have hXl : (H.take k ++ tkN s t :: H.drop k).length = H.length + 1 := by simp; omega
  generalize hXX : H.take k ++ tkN s t :: H.drop k = X at *
  have hEl : (I.eraseIdx i).length = I.length - 1 := by rw [List.length_eraseIdx, if_pos hi']
  rw [← hEl] at hdel
  generalize hEE : I.eraseIdx i = E at *
  rw [← hXl]
  repeat' (first | (first | refine Ya ?_ | refine Yb ?_ | refine Yc ?_ | refine Yd ?_ | refine Ye ?_ | refine Yf ?_ | refine Yg ?_ | refine Yh ?_ | refine Yi ?_ | refine Yj ?_ | refine Yk ?_ | refine Yl ?_ | refine Ym ?_ | refine Yn ?_ | refine Yo ?_ | refine Yp (h := ?_) | refine Yq ?_ | refine Yr ?_ | refine Ys ?_ | refine Zr hc (hk := ?_) | refine Zd hc (hk := ?_) | (refine Zc (ht := fun hb => ?_) (hf := fun hb => ?_) <;> (try simp at hb)) | fail) | ((first | refine run_callM ([(50001, 40001)]) (hdel) hc (by simp; exact Gives.mk) (by simp; exact Gives.mk) (by simp; exact Gives.mk) (by simp; exact Gives.mk) (by simp; exact Gives.mk) rfl (by simp; exact Gives.mk) (by simp; exact Gives.mk) rfl (by simp) (by simp) (by simp; exact Gives.mk) (by simp; exact Gives.mk) ?_ | fail)) | (first | refine Zo hc (hk := ?_) | refine Zu hc (hk := ?_) | refine Ze hc (hk := ?_) | fail))
  all_goals try contradiction
  all_goals try (exfalso; omega)
  refine ewp_le (run_keep [2, 4, 5, 9] [2, 4, 5, 9, 40001, 40002] (by simp; exact Gives.mk) (by simp; exact Gives.mk)) ?_
  (apply run_drawAny 5 hc (by kernel_rfl) rfl; (focus (refine anyW_all [0, 1] (by kernel_rfl) rfl ?_; refine ⟨?_, ?_⟩; (focus (refine run_stepW hc rfl (by simp; exact Ends.go) (by first | exact True.intro | omega | (simp; done) | (simp; omega) | (simp at *; omega)) ?q210; refine anyW_all [1, 2] (by kernel_rfl) rfl ?nq210; refine ⟨?_, ?_⟩; (focus (refine run_stepW hc rfl (by simp; exact Ends.go) (by first | exact True.intro | omega | (simp; done) | (simp; omega) | (simp at *; omega)) ?q211; refine anyW_all [2] (by kernel_rfl) rfl ?nq211; (focus (refine run_stepW hc rfl (by simp; exact Ends.go) (by first | exact True.intro | omega | (simp; done) | (simp; omega) | (simp at *; omega)) ?q212; refine anyW_all [3] (by kernel_rfl) rfl ?nq212; (focus (refine run_stepW hc rfl (by simp; exact Ends.go) (by first | exact True.intro | omega | (simp; done) | (simp; omega) | (simp at *; omega)) ?q213; refine run_anyM 4 hc rfl (by kernel_rfl) rfl (by first | exact .inl rfl | exact .inr rfl) (by simp; exact Gives.mk) (by simp) (by simp; exact Gives.mk) ?nq213; refine anyW_done (by kernel_rfl) ?_; exact run_keep [4, 5, 6] [4, 5, 40001, 40002] (by simp; try exact Gives.mk) (by simp; try exact Gives.mk))))))); (focus (refine run_stepW hc rfl (by simp; exact Ends.go) (by first | exact True.intro | omega | (simp; done) | (simp; omega) | (simp at *; omega)) ?q214; refine anyW_all [1] (by kernel_rfl) rfl ?nq214; (focus (refine run_stepW hc rfl (by simp; exact Ends.go) (by first | exact True.intro | omega | (simp; done) | (simp; omega) | (simp at *; omega)) ?_; exact anyW_le (run_back [2, 4, 5, 9, 108, 109] [2, 4, 5, 9, 40001, 40002] (by simp; exact Gives.mk) (by simp; exact Gives.mk) (by simp)) ?q212)))))); (focus (refine run_stepW hc rfl (by simp; exact Ends.go) (by first | exact True.intro | omega | (simp; done) | (simp; omega) | (simp at *; omega)) ?q215; refine anyW_all [0] (by kernel_rfl) rfl ?nq215; (focus (refine run_stepW hc rfl (by simp; exact Ends.go) (by first | exact True.intro | omega | (simp; done) | (simp; omega) | (simp at *; omega)) ?_; exact anyW_le (run_back [2, 4, 5, 9, 108, 109] [2, 4, 5, 9, 40001, 40002] (by simp; exact Gives.mk) (by simp; exact Gives.mk) (by simp)) ?q211)))))))
  repeat' (first | (first | refine Ya ?_ | refine Yb ?_ | refine Yc ?_ | refine Yd ?_ | refine Ye ?_ | refine Yf ?_ | refine Yg ?_ | refine Yh ?_ | refine Yi ?_ | refine Yj ?_ | refine Yk ?_ | refine Yl ?_ | refine Ym ?_ | refine Yn ?_ | refine Yo ?_ | refine Yp (h := ?_) | refine Yq ?_ | refine Yr ?_ | refine Ys ?_ | refine Zr hc (hk := ?_) | refine Zd hc (hk := ?_) | (refine Zc (ht := fun hb => ?_) (hf := fun hb => ?_) <;> (try simp at hb)) | fail) | (first | refine Zo hc (hk := ?_) | refine Zu hc (hk := ?_) | refine Ze hc (hk := ?_) | fail))
  all_goals try contradiction
  have e1 := del_cells E 1
  have e2 : (fun i => (X.map hstCells)[i]?.getD [str [], int 0, tru false, intSl []]) = fun i => [str (hstAt X i).1, int (hstAt X i).2.1, tru (hstAt X i).2.2.1, intSl (hstAt X i).2.2.2] := by funext i; rw [List.getElem?_map, row_h]
  (refine Zl hc (hr := ?_))
  simp only [List.replicate_succ, List.replicate_zero] at e1
  simp [e1, e2]
theorem frTake_ok (f : Frt) (t : Int) (hf : FrOk f) : FnOk Tryz.prog 44 [frD f, int t] (takeD f t) := by
  by_cases h0 : atE f t = 0
  · by_cases h1 : takeN f t < 0
    · have hE : takeE f t = 9 := by
        unfold takeE
        rw [if_neg (fun e => e h0), if_pos h1]
      refine fnOk Tryz.func44 rfl (by kernel_rfl) Tryz.ntmps44 _ rfl (by simp) fun C hc => ?_
      obtain ⟨hg, ht⟩ := atE_good h0
      have hA := checkAt_ok f t hf
      have hN := next_ok f t hg
      rw [h0] at hA
      change FnOk _ _ _ (int (takeN f t)) at hN
      unfold takeD
      rw [hE, if_pos (by decide)]
      generalize takeN f t = n at h1 hN
      repeat' (first | (first | refine Ya ?_ | refine Yb ?_ | refine Yc ?_ | refine Yd ?_ | refine Ye ?_ | refine Yf ?_ | refine Yg ?_ | refine Yh ?_ | refine Yi ?_ | refine Yj ?_ | refine Yk ?_ | refine Yl ?_ | refine Ym ?_ | refine Yn ?_ | refine Yo ?_ | refine Yp (h := ?_) | refine Yq ?_ | refine Yr ?_ | refine Ys ?_ | refine Zr hc (hk := ?_) | refine Zd hc (hk := ?_) | (refine Zc (ht := fun hb => ?_) (hf := fun hb => ?_) <;> (try simp at hb)) | fail) | (first | refine Zw hc (hf := by first | exact hA | exact hN) (hk := ?_) | refine Zq hc (hf := by first | exact hA | exact hN) (hk := ?_) | refine Zo hc (hk := ?_) | refine Zu hc (hk := ?_) | refine Ze hc (hk := ?_) | fail))
      all_goals try contradiction
      all_goals try (exfalso; omega)
      (refine Zl hc (hr := ?_))
      simp [frNo]
    · cases h2 : hThere f (tkS f t) with
      | true => exact frTakeT_ok f t hf h0 (by omega) h2
      | false => exact frTakeN_ok f t hf h0 (by omega) h2
  · have hE : takeE f t = atE f t := by
      unfold takeE
      rw [if_pos h0]
    refine fnOk Tryz.func44 rfl (by kernel_rfl) Tryz.ntmps44 _ rfl (by simp) fun C hc => ?_
    have hA := checkAt_ok f t hf
    unfold takeD
    rw [hE, if_pos h0]
    generalize atE f t = e at h0 hA
    repeat' (first | (first | refine Ya ?_ | refine Yb ?_ | refine Yc ?_ | refine Yd ?_ | refine Ye ?_ | refine Yf ?_ | refine Yg ?_ | refine Yh ?_ | refine Yi ?_ | refine Yj ?_ | refine Yk ?_ | refine Yl ?_ | refine Ym ?_ | refine Yn ?_ | refine Yo ?_ | refine Yp (h := ?_) | refine Yq ?_ | refine Yr ?_ | refine Ys ?_ | refine Zr hc (hk := ?_) | refine Zd hc (hk := ?_) | (refine Zc (ht := fun hb => ?_) (hf := fun hb => ?_) <;> (try simp at hb)) | fail) | (first | refine Zw hc (hf := by exact hA) (hk := ?_) | refine Zq hc (hf := by exact hA) (hk := ?_) | refine Zo hc (hk := ?_) | refine Zu hc (hk := ?_) | refine Ze hc (hk := ?_) | fail))
    all_goals try contradiction
    (refine Zl hc (hr := ?_))
    simp [frNo]
end Go.Proofs.YtnainpghpjelcaaGreatDoor
