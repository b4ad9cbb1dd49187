/-
  FRONTIER: Next, Wait, Spent (program). (WITH run_drawN.)
-/
import Derived.Test.YtnainpghpjelcaaGreatDoorFnC
set_option linter.unusedSimpArgs false
set_option linter.unusedVariables false
namespace Go.Proofs.YtnainpghpjelcaaGreatDoor
open Go.Lw Go.RowKit
set_option maxRecDepth 100000
set_option maxHeartbeats 2000000

theorem max2_eq (a b : Int) : (if a < b then b else a) = max a b := by rw [Int.max_def]; split <;> split <;> omega
/-- max of three numbers. -/
theorem run_max3 {C : Ctx} {P : Program} {nt : Nat} {st : St} {ops : Array Oper} {rest : List Oper} {K : St → Prop} (hc : CtxIs C P nt) {x y z : Operand} {k1 k2 k3 : IntKind} {n1 n2 n3 : Int} {ts : Array TypeId} {d : Option Tmp} {ty : TypeId} {pos : String} {af : Array Edge} {gd : Option (Nat × Bool)}
    (hw : Gives (gE ops { dst := d, op := .call { callee := .builtin .max, args := #[x, y, z], argTypes := ts }, type := ty, pos := pos, after := af, guard := gd } st) true)
    (hx : Gives (ev true st x) (.d (.lit (.int k1 n1)))) (hy : Gives (ev true st y) (.d (.lit (.int k2 n2)))) (hz : Gives (ev true st z) (.d (.lit (.int k3 n3)))) (hd : dstB nt d = true)
    (hk : opsW C ops rest (st.put d (.d (.lit (.int k1 (max (max n1 n2) n3))))) K) :
    opsW C ops ({ dst := d, op := .call { callee := .builtin .max, args := #[x, y, z], argTypes := ts }, type := ty, pos := pos, after := af, guard := gd } :: rest) st K := by
  obtain ⟨rfl, rfl, hok⟩ := hc
  intro a w ⟨ok, h, r⟩ Q hQ
  refine wpList_step fun K' hK => ?_
  rw [wanted_of r hw, if_pos rfl]
  have e1 := lit_of (ev_sound rfl r hx)
  have e2 := lit_of (ev_sound rfl r hy)
  have e3 := lit_of (ev_sound rfl r hz)
  unfold Oper.wp
  have hrun : (execOp a.eval { dst := d, op := .call { callee := .builtin .max, args := #[x, y, z], argTypes := ts }, type := ty, pos := pos, after := af, guard := gd }).run C.P w = .ok (.value (.int k1 (max (max n1 n2) n3))) w := by
    rw [← max2_eq, ← max2_eq]
    simp [execOp, e1, e2, e3, resolve, invoke, builtin, Builtin.max_, Builtin.max2]
  rw [hrun]
  exact hK _ _ (hk _ _ ⟨ok, h, r.put (dstB_spec hd) (.d _ _ (.lit _))⟩ Q hQ)
theorem itemsGo_all (L : List Wnt) (j : Nat) (h : itemsGo L j = 0) : ∀ i, j ≤ i → i < L.length → wntE (wntAt L i) = 0 ∧ ¬ (0 < i ∧ leB (wntAt L i).1 (wntAt L (i - 1)).1) := by
  intro i hji hi
  rw [itemsGo, if_pos (by omega)] at h
  by_cases h1 : wntE (wntAt L j) ≠ 0
  · rw [if_pos h1] at h; exact absurd h h1
  · rw [if_neg h1] at h
    by_cases h2 : 0 < j ∧ leB (wntAt L j).1 (wntAt L (j - 1)).1
    · rw [if_pos h2] at h; cases h
    · rw [if_neg h2] at h
      rcases Nat.lt_or_ge j i with h3 | h3
      · exact itemsGo_all L (j + 1) h i (by omega) hi
      · obtain rfl : i = j := by omega
        exact ⟨by omega, h2⟩
termination_by L.length - j
theorem startsGo_all (l : List Int) (j : Nat) (h : startsGo l j = 0) : ∀ i, j ≤ i → i < l.length → okM (l[i]?.getD 0) ∧ ¬ (0 < i ∧ l[i]?.getD 0 < l[i - 1]?.getD 0) := by
  intro i hji hi
  rw [startsGo, if_pos (by omega)] at h
  by_cases h1 : decide (okM (l[j]?.getD 0)) = false
  · rw [if_pos h1] at h; cases h
  · rw [if_neg h1] at h
    by_cases h2 : 0 < j ∧ l[j]?.getD 0 < l[j - 1]?.getD 0
    · rw [if_pos h2] at h; cases h
    · rw [if_neg h2] at h
      rcases Nat.lt_or_ge j i with h3 | h3
      · exact startsGo_all l (j + 1) h i (by omega) hi
      · obtain rfl : i = j := by omega
        exact ⟨by simpa using h1, h2⟩
termination_by l.length - j
theorem hostsGo_all (L : List Hst) (j : Nat) (h : hostsGo L j = 0) : ∀ i, j ≤ i → i < L.length → hostE L i = 0 := by
  intro i hji hi
  rw [hostsGo, if_pos (by omega)] at h
  by_cases h1 : hostE L j ≠ 0
  · rw [if_pos h1] at h; exact absurd h h1
  · rw [if_neg h1] at h
    rcases Nat.lt_or_ge j i with h3 | h3
    · exact hostsGo_all L (j + 1) h i (by omega) hi
    · obtain rfl : i = j := by omega
      omega
termination_by L.length - j
theorem hostE_all {L : List Hst} {j : Nat} (h : hostE L j = 0) : isHo (nameAt L j) = true ∧ ¬ (0 < j ∧ leB (nameAt L j) (nameAt L (j - 1))) ∧ (0 ≤ (hstAt L j).2.1 ∧ (hstAt L j).2.1 ≤ 253502300799) ∧ startsE (hstAt L j).2.2.2 = 0 := by
  unfold hostE at h
  by_cases h1 : isHo (hstAt L j).1 = false
  · rw [if_pos h1] at h; cases h
  rw [if_neg h1] at h
  by_cases h2 : 0 < j ∧ leB (hstAt L j).1 (hstAt L (j - 1)).1
  · rw [if_pos h2] at h; cases h
  rw [if_neg h2] at h
  by_cases h3 : decide (0 ≤ (hstAt L j).2.1 ∧ (hstAt L j).2.1 ≤ 253502300799) = false
  · rw [if_pos h3] at h; cases h
  rw [if_neg h3] at h
  exact ⟨by simpa using h1, h2, by simpa using h3, h⟩
theorem frE_good {f : Frt} (h : frE f = 0) : FrGood f := by
  unfold frE at h
  by_cases h1 : decide (1 ≤ f.budget ∧ f.budget ≤ 200) = false ∨ decide (1 ≤ f.window ∧ f.window ≤ 100000000) = false
  · rw [if_pos h1] at h; cases h
  rw [if_neg h1] at h
  by_cases h2 : 2000 < f.items.length
  · rw [if_pos h2] at h; cases h
  rw [if_neg h2] at h
  by_cases h3 : itemsGo f.items 0 ≠ 0
  · rw [if_pos h3] at h; exact absurd h h3
  rw [if_neg h3] at h
  by_cases h4 : 300 < f.hosts.length
  · rw [if_pos h4] at h; cases h
  rw [if_neg h4] at h
  have hi := itemsGo_all f.items 0 (by omega)
  have hh := fun i hi => hostE_all (hostsGo_all f.hosts 0 h i (Nat.zero_le _) hi)
  have hs : ∀ j, j < f.hosts.length → (hstAt f.hosts j).2.2.2.length ≤ 200 ∧ startsGo (hstAt f.hosts j).2.2.2 0 = 0 := fun j hj => by
    have := (hh j hj).2.2.2
    unfold startsE at this
    split at this
    · cases this
    · exact ⟨by omega, this⟩
  refine ⟨by simpa using fun e => h1 (.inl (decide_eq_false e)), by simpa using fun e => h1 (.inr (decide_eq_false e)), by omega, by omega, fun j hj => (hi j (by omega) hj).1,
    ascB_of _ _ fun j h0 hj hl => (hi j (by omega) hj).2 ⟨h0, hl⟩, ascB_of _ _ fun j h0 hj hl => (hh j hj).2.1 ⟨h0, hl⟩, fun j hj => (hh j hj).1, fun j hj => (hh j hj).2.2.1, fun j hj => (hs j hj).1, fun j hj k hk => ?_⟩
  obtain ⟨k1, k2⟩ := startsGo_all _ 0 (hs j hj).2 k (Nat.zero_le _) hk
  exact ⟨k1, fun h0 => by omega⟩
/-- The fault of a frontier and a moment. -/
def atE (f : Frt) (t : Int) : Nat := if frE f ≠ 0 then frE f else if decide (okM t) = false then 1 else 0
theorem atE_good {f : Frt} {t : Int} (h : atE f t = 0) : FrGood f ∧ okM t := by
  unfold atE at h
  by_cases h1 : frE f ≠ 0
  · rw [if_pos h1] at h; exact absurd h h1
  rw [if_neg h1] at h
  by_cases h2 : decide (okM t) = false
  · rw [if_pos h2] at h; cases h
  exact ⟨frE_good (by omega), by simpa using h2⟩
theorem checkAt_ok (f : Frt) (t : Int) (hf : FrOk f) : FnOk Tryz.prog 50 [frD f, int t] (int (atE f t)) := by
  refine fnOk Tryz.func50 rfl (by kernel_rfl) Tryz.ntmps50 _ rfl (by simp) fun C hc => ?_
  have h1 := checkFr_ok f hf
  have h2 := frMoment_ok t
  unfold atE
  generalize frE f = e at h1 ⊢
  generalize decide (okM t) = w at h2 ⊢
  repeat' (first | (first | refine Ya ?_ | refine Yb ?_ | refine Yc ?_ | refine Yd ?_ | refine Ye ?_ | refine Yf ?_ | refine Yg ?_ | refine Yh ?_ | refine Yi ?_ | refine Yj ?_ | refine Yk ?_ | refine Yl ?_ | refine Ym ?_ | refine Yn ?_ | refine Yo ?_ | refine Yp (h := ?_) | refine Yq ?_ | refine Yr ?_ | refine Ys ?_ | refine Zr hc (hk := ?_) | refine Zd hc (hk := ?_) | (refine Zc (ht := fun hb => ?_) (hf := fun hb => ?_) <;> (try simp at hb)) | fail) | (first | refine Zw hc (hf := by first | exact h1 | exact h2) (hk := ?_) | refine Zq hc (hf := by first | exact h1 | exact h2) (hk := ?_) | refine Zo hc (hk := ?_) | refine Zu hc (hk := ?_) | refine Ze hc (hk := ?_) | refine Zn hc (hk := ?_) | fail))
  · rw [if_pos hb]
    (refine Zl hc (hr := ?_))
    simp
  · rename_i g
    rw [if_neg (fun h => h g), if_pos hb]
    (refine Zl hc (hr := ?_))
    simp
  · rename_i g
    rw [if_neg (fun h => h g), if_neg (by simp [hb])]
    (refine Zl hc (hr := ?_))
    simp
def nextC (f : Frt) (t : Int) : Int × Bool × Nat := if atE f t ≠ 0 then (0, false, atE f t) else (max (nextGo f.items (rdyP f t) 0 (-1)) 0, decide (0 ≤ nextGo f.items (rdyP f t) 0 (-1)), 0)
theorem nextF_ok (f : Frt) (t : Int) (hf : FrOk f) : FnOk Tryz.prog 16 [frD f, int t] (.tup [int (nextC f t).1, tru (nextC f t).2.1, int (nextC f t).2.2]) := by
  refine fnOk Tryz.func16 rfl (by kernel_rfl) Tryz.ntmps16 _ rfl (by simp) fun C hc => ?_
  have h1 := checkAt_ok f t hf
  unfold nextC
  by_cases h0 : atE f t = 0
  · rw [if_neg (fun e => e h0)]
    rw [h0] at h1
    have h2 := next_ok f t (atE_good h0).1
    generalize nextGo f.items (rdyP f t) 0 (-1) = n at h2 ⊢
    repeat' (first | (first | refine Ya ?_ | refine Yb ?_ | refine Yc ?_ | refine Yd ?_ | refine Ye ?_ | refine Yf ?_ | refine Yg ?_ | refine Yh ?_ | refine Yi ?_ | refine Yj ?_ | refine Yk ?_ | refine Yl ?_ | refine Ym ?_ | refine Yn ?_ | refine Yo ?_ | refine Yp (h := ?_) | refine Yq ?_ | refine Yr ?_ | refine Ys ?_ | refine Zr hc (hk := ?_) | refine Zd hc (hk := ?_) | (refine Zc (ht := fun hb => ?_) (hf := fun hb => ?_) <;> (try simp at hb)) | fail) | (first | refine Zw hc (hf := by first | exact h1 | exact h2) (hk := ?_) | refine Zq hc (hf := by first | exact h1 | exact h2) (hk := ?_) | refine Zo hc (hk := ?_) | refine Zu hc (hk := ?_) | refine Ze hc (hk := ?_) | refine Zn hc (hk := ?_) | fail))
    all_goals try contradiction
    (refine Zl hc (hr := ?_))
    simp
    rw [Int.max_def]
    split <;> split <;> omega
  · rw [if_pos h0]
    generalize atE f t = e at h0 h1 ⊢
    repeat' (first | (first | refine Ya ?_ | refine Yb ?_ | refine Yc ?_ | refine Yd ?_ | refine Ye ?_ | refine Yf ?_ | refine Yg ?_ | refine Yh ?_ | refine Yi ?_ | refine Yj ?_ | refine Yk ?_ | refine Yl ?_ | refine Ym ?_ | refine Yn ?_ | refine Yo ?_ | refine Yp (h := ?_) | refine Yq ?_ | refine Yr ?_ | refine Ys ?_ | refine Zr hc (hk := ?_) | refine Zd hc (hk := ?_) | (refine Zc (ht := fun hb => ?_) (hf := fun hb => ?_) <;> (try simp at hb)) | fail) | (first | refine Zw hc (hf := by exact h1) (hk := ?_) | refine Zq hc (hf := by exact h1) (hk := ?_) | refine Zo hc (hk := ?_) | refine Zu hc (hk := ?_) | refine Ze hc (hk := ?_) | refine Zn hc (hk := ?_) | fail))
    all_goals try contradiction
    (refine Zl hc (hr := ?_))
    simp
/-- When an item can be fetched. -/
def waitN (f : Frt) (t : Int) (x : Wnt) : Int := max t (max x.2.2 (opensP f (hostK x.1)).1)
def waitGo (L : List Wnt) (n : Wnt → Int) (o : Wnt → Bool) (j : Nat) (b : Int) : Int :=
  if j < L.length then waitGo L n o (j + 1) (if o (wntAt L j) = true ∧ n (wntAt L j) ≤ 253402300799 ∧ (b < 0 ∨ n (wntAt L j) < b) then n (wntAt L j) else b) else b
termination_by L.length - j
def opnP (f : Frt) (x : Wnt) : Bool := (opensP f (hostK x.1)).2
def waitC (f : Frt) (t : Int) : Int × Nat := if atE f t ≠ 0 then (0, atE f t) else (waitGo f.items (waitN f t) (opnP f) 0 (-1), 0)
theorem wait_ok (f : Frt) (t : Int) (hf : FrOk f) : FnOk Tryz.prog 14 [frD f, int t] (.tup [int (waitC f t).1, int (waitC f t).2]) := by
  refine fnOk Tryz.func14 rfl (by kernel_rfl) Tryz.ntmps14 _ rfl (by simp) fun C hc => ?_
  have h1 := checkAt_ok f t hf
  unfold waitC
  by_cases h0 : atE f t = 0
  rotate_left
  · rw [if_pos h0]
    generalize atE f t = e at h0 h1 ⊢
    repeat' (first | (first | refine Ya ?_ | refine Yb ?_ | refine Yc ?_ | refine Yd ?_ | refine Ye ?_ | refine Yf ?_ | refine Yg ?_ | refine Yh ?_ | refine Yi ?_ | refine Yj ?_ | refine Yk ?_ | refine Yl ?_ | refine Ym ?_ | refine Yn ?_ | refine Yo ?_ | refine Yp (h := ?_) | refine Yq ?_ | refine Yr ?_ | refine Ys ?_ | refine Zr hc (hk := ?_) | refine Zd hc (hk := ?_) | (refine Zc (ht := fun hb => ?_) (hf := fun hb => ?_) <;> (try simp at hb)) | fail) | (first | refine Zw hc (hf := by exact h1) (hk := ?_) | refine Zq hc (hf := by exact h1) (hk := ?_) | refine Zo hc (hk := ?_) | refine Zu hc (hk := ?_) | refine Ze hc (hk := ?_) | refine Zn hc (hk := ?_) | fail))
    all_goals try contradiction
    (refine Zl hc (hr := ?_))
    simp
  rw [if_neg (fun e => e h0)]
  rw [h0] at h1
  obtain ⟨hg, ht⟩ := atE_good h0
  have hil := hg.items
  repeat' (first | (first | refine Ya ?_ | refine Yb ?_ | refine Yc ?_ | refine Yd ?_ | refine Ye ?_ | refine Yf ?_ | refine Yg ?_ | refine Yh ?_ | refine Yi ?_ | refine Yj ?_ | refine Yk ?_ | refine Yl ?_ | refine Ym ?_ | refine Yn ?_ | refine Yo ?_ | refine Yp (h := ?_) | refine Yq ?_ | refine Yr ?_ | refine Ys ?_ | refine Zr hc (hk := ?_) | refine Zd hc (hk := ?_) | (refine Zc (ht := fun hb => ?_) (hf := fun hb => ?_) <;> (try simp at hb)) | fail) | (first | refine Zw hc (hf := by exact h1) (hk := ?_) | refine Zq hc (hf := by exact h1) (hk := ?_) | refine Zo hc (hk := ?_) | refine Zu hc (hk := ?_) | refine Ze hc (hk := ?_) | refine Zn hc (hk := ?_) | fail))
  all_goals try contradiction
  clear h1
  refine ewp_loop (fun x : Nat × Int => ⟨[(1, .d (int t)), (2, .bp 2 0), (7, .d (int x.2)), (20, .d (wntSl f.items)), (21, .d (int f.items.length)), (22, .d (int x.1))], [(2, .box 25 [.d (wntSl f.items), .d (hstSl f.hosts), .d (int f.budget), .d (int f.window)])]⟩)
    (fun x => x.1 ≤ f.items.length ∧ waitGo f.items (waitN f t) (opnP f) 0 (-1) = waitGo f.items (waitN f t) (opnP f) x.1 x.2) (fun x => f.items.length - x.1) (0, -1) (by simp) (run_keep [1, 2, 7, 20, 21, 22] [2] (by simp; exact Gives.mk) (by simp; exact Gives.mk)) ?_
  rintro ⟨j, b⟩ ⟨hj, hA⟩
  simp only at hj hA ⊢
  by_cases hlt : j < f.items.length
  rotate_left
  · rw [waitGo.eq_def f.items (waitN f t) (opnP f) j b, if_neg hlt] at hA
    repeat' (first | (first | refine Ya ?_ | refine Yb ?_ | refine Yc ?_ | refine Yd ?_ | refine Ye ?_ | refine Yf ?_ | refine Yg ?_ | refine Yh ?_ | refine Yi ?_ | refine Yj ?_ | refine Yk ?_ | refine Yl ?_ | refine Ym ?_ | refine Yn ?_ | refine Yo ?_ | refine Yp (h := ?_) | refine Yq ?_ | refine Yr ?_ | refine Ys ?_ | refine Zr hc (hk := ?_) | refine Zd hc (hk := ?_) | (refine Zc (ht := fun hb => ?_) (hf := fun hb => ?_) <;> (try simp at hb)) | fail) | (first | refine Zo hc (hk := ?_) | refine Zu hc (hk := ?_) | refine Ze hc (hk := ?_) | refine Zn hc (hk := ?_) | fail))
    all_goals try (exfalso; omega)
    rw [hA]
    (refine Zl hc (hr := ?_))
    simp
  rw [waitGo.eq_def f.items (waitN f t) (opnP f) j b, if_pos hlt] at hA
  obtain ⟨k1, k2, k3⟩ := wnt_key (hg.wnt j hlt)
  have kl : (wntAt f.items j).1.length ≤ 2000 := (ofK_cases _).elim (fun h => absurd k1 h.1) (·.2.1)
  have h1 := frHostOf_ok (wntAt f.items j).1 (of_has k1) (by omega)
  have h2 := opens_ok f (hostK (wntAt f.items j).1) hg
  have hn : waitN f t (wntAt f.items j) = max t (max (wntAt f.items j).2.2 (opensP f (hostK (wntAt f.items j).1)).1) := rfl
  have ho : opnP f (wntAt f.items j) = (opensP f (hostK (wntAt f.items j).1)).2 := rfl
  rw [ho] at hA
  generalize waitN f t (wntAt f.items j) = n at hn hA
  generalize opensP f (hostK (wntAt f.items j).1) = op at h2 hn hA
  generalize hostK (wntAt f.items j).1 = hk at h1 h2
  obtain ⟨o1, o2⟩ := op
  simp only at h2 hn hA
  clear ho
  repeat' (first | (first | refine Ya ?_ | refine Yb ?_ | refine Yc ?_ | refine Yd ?_ | refine Ye ?_ | refine Yf ?_ | refine Yg ?_ | refine Yh ?_ | refine Yi ?_ | refine Yj ?_ | refine Yk ?_ | refine Yl ?_ | refine Ym ?_ | refine Yn ?_ | refine Yo ?_ | refine Yp (h := ?_) | refine Yq ?_ | refine Yr ?_ | refine Ys ?_ | refine Zr hc (hk := ?_) | refine Zd hc (hk := ?_) | (refine Zc (ht := fun hb => ?_) (hf := fun hb => ?_) <;> (try simp at hb)) | fail) | (first | refine Zw hc (hf := by first | exact h1 | exact h2) (hk := ?_) | refine Zq hc (hf := by first | exact h1 | exact h2) (hk := ?_) | refine Zo hc (hk := ?_) | refine Zu hc (hk := ?_) | refine Ze hc (hk := ?_) | refine Zn hc (hk := ?_) | fail) | refine run_max3 hc (by simp; exact Gives.mk) (by simp; exact Gives.mk) (by simp; exact Gives.mk) (by simp; exact Gives.mk) (by simp) ?_)
  all_goals try (exfalso; omega)
  · rw [← hn] at hb
    rw [if_pos ⟨hb.1.1, hb.1.2, hb.2⟩] at hA
    exact ⟨(j + 1, n), ⟨by simp only; omega, hA⟩, by simp only; omega, run_back [1, 2, 7, 20, 21, 22] [2] (by simp; exact Gives.mk) (by simp; exact Gives.mk) (by simp [hn])⟩
  · rw [← hn] at hb
    rw [if_neg (fun h => by
      have := hb h.1 h.2.1
      omega)] at hA
    exact ⟨(j + 1, b), ⟨by simp only; omega, hA⟩, by simp only; omega, run_back [1, 2, 7, 20, 21, 22] [2] (by simp; exact Gives.mk) (by simp; exact Gives.mk) (by simp)⟩
/-- How often a host was asked. -/
def spentGo (l : List Int) (lo hi : Int) (j : Nat) : Nat := if j < l.length then (if lo < l[j]?.getD 0 ∧ l[j]?.getD 0 ≤ hi then 1 else 0) + spentGo l lo hi (j + 1) else 0
termination_by l.length - j
def spentC (f : Frt) (s : Bs) (t : Int) : Int × Nat := if atE f t ≠ 0 then (0, atE f t) else if thereB (nameAt f.hosts) f.hosts.length s = false then (0, 9) else (spentGo (hstAt f.hosts (lbB (nameAt f.hosts) f.hosts.length s)).2.2.2 (t - f.window) t 0, 0)
theorem spent_ok (f : Frt) (s : Bs) (t : Int) (hf : FrOk f) : FnOk Tryz.prog 35 [frD f, str s, int t] (.tup [int (spentC f s t).1, int (spentC f s t).2]) := by
  refine fnOk Tryz.func35 rfl (by kernel_rfl) Tryz.ntmps35 _ rfl (by simp) fun C hc => ?_
  have h1 := checkAt_ok f t hf
  unfold spentC
  by_cases h0 : atE f t = 0
  rotate_left
  · rw [if_pos h0]
    generalize atE f t = e at h0 h1 ⊢
    repeat' (first | (first | refine Ya ?_ | refine Yb ?_ | refine Yc ?_ | refine Yd ?_ | refine Ye ?_ | refine Yf ?_ | refine Yg ?_ | refine Yh ?_ | refine Yi ?_ | refine Yj ?_ | refine Yk ?_ | refine Yl ?_ | refine Ym ?_ | refine Yn ?_ | refine Yo ?_ | refine Yp (h := ?_) | refine Yq ?_ | refine Yr ?_ | refine Ys ?_ | refine Zr hc (hk := ?_) | refine Zd hc (hk := ?_) | (refine Zc (ht := fun hb => ?_) (hf := fun hb => ?_) <;> (try simp at hb)) | fail) | (first | refine Zw hc (hf := by exact h1) (hk := ?_) | refine Zq hc (hf := by exact h1) (hk := ?_) | refine Zo hc (hk := ?_) | refine Zu hc (hk := ?_) | refine Ze hc (hk := ?_) | refine Zn hc (hk := ?_) | fail))
    all_goals try contradiction
    (refine Zl hc (hr := ?_))
    simp
  rw [if_neg (fun e => e h0)]
  rw [h0] at h1
  obtain ⟨hg, ht⟩ := atE_good h0
  have h2 := find_ok f s hg.hosts hg.names
  have hw := hg.window
  have hlt : thereB (nameAt f.hosts) f.hosts.length s = true → lbB (nameAt f.hosts) f.hosts.length s < f.hosts.length := fun e => by
    unfold thereB at e
    simp at e
    exact e.1
  have hmn := hg.many (lbB (nameAt f.hosts) f.hosts.length s)
  have hhl := hg.hosts
  generalize thereB (nameAt f.hosts) f.hosts.length s = th at h2 hlt ⊢
  generalize lbB (nameAt f.hosts) f.hosts.length s = k at h2 hlt hmn ⊢
  cases th
  · rw [if_pos rfl]
    repeat' (first | (first | refine Ya ?_ | refine Yb ?_ | refine Yc ?_ | refine Yd ?_ | refine Ye ?_ | refine Yf ?_ | refine Yg ?_ | refine Yh ?_ | refine Yi ?_ | refine Yj ?_ | refine Yk ?_ | refine Yl ?_ | refine Ym ?_ | refine Yn ?_ | refine Yo ?_ | refine Yp (h := ?_) | refine Yq ?_ | refine Yr ?_ | refine Ys ?_ | refine Zr hc (hk := ?_) | refine Zd hc (hk := ?_) | (refine Zc (ht := fun hb => ?_) (hf := fun hb => ?_) <;> (try simp at hb)) | fail) | (first | refine Zw hc (hf := by first | exact h1 | exact h2) (hk := ?_) | refine Zq hc (hf := by first | exact h1 | exact h2) (hk := ?_) | refine Zo hc (hk := ?_) | refine Zu hc (hk := ?_) | refine Ze hc (hk := ?_) | refine Zn hc (hk := ?_) | fail))
    all_goals try contradiction
    (refine Zl hc (hr := ?_))
    simp
  rw [if_neg (by decide)]
  have hk := hlt rfl
  have hmn := hmn hk
  clear hlt
  repeat' (first | (first | refine Ya ?_ | refine Yb ?_ | refine Yc ?_ | refine Yd ?_ | refine Ye ?_ | refine Yf ?_ | refine Yg ?_ | refine Yh ?_ | refine Yi ?_ | refine Yj ?_ | refine Yk ?_ | refine Yl ?_ | refine Ym ?_ | refine Yn ?_ | refine Yo ?_ | refine Yp (h := ?_) | refine Yq ?_ | refine Yr ?_ | refine Ys ?_ | refine Zr hc (hk := ?_) | refine Zd hc (hk := ?_) | (refine Zc (ht := fun hb => ?_) (hf := fun hb => ?_) <;> (try simp at hb)) | fail) | (first | refine Zw hc (hf := by first | exact h1 | exact h2) (hk := ?_) | refine Zq hc (hf := by first | exact h1 | exact h2) (hk := ?_) | refine Zo hc (hk := ?_) | refine Zu hc (hk := ?_) | refine Ze hc (hk := ?_) | refine Zn hc (hk := ?_) | fail))
  all_goals try contradiction
  generalize hl : (hstAt f.hosts k).2.2.2 = l at hmn ⊢
  refine ewp_loop (fun x : Nat × Nat => ⟨[(2, .d (int t)), (3, .bp 3 0), (11, .d (int x.2)), (33, .d (intSl l)), (34, .d (int l.length)), (35, .d (int x.1))], [(3, .box 25 [.d (wntSl f.items), .d (hstSl f.hosts), .d (int f.budget), .d (int f.window)])]⟩)
    (fun x => x.1 ≤ l.length ∧ x.2 ≤ x.1 ∧ spentGo l (t - f.window) t 0 = x.2 + spentGo l (t - f.window) t x.1) (fun x => l.length - x.1) (0, 0) (by simp) (by subst hl; exact run_keep [2, 3, 11, 33, 34, 35] [3] (by simp; exact Gives.mk) (by simp; exact Gives.mk)) ?_
  rintro ⟨j, n⟩ ⟨hj, hn, hA⟩
  simp only at hj hn hA ⊢
  by_cases hlt : j < l.length
  · rw [spentGo.eq_def l (t - f.window) t j, if_pos hlt] at hA
    repeat' (first | (first | refine Ya ?_ | refine Yb ?_ | refine Yc ?_ | refine Yd ?_ | refine Ye ?_ | refine Yf ?_ | refine Yg ?_ | refine Yh ?_ | refine Yi ?_ | refine Yj ?_ | refine Yk ?_ | refine Yl ?_ | refine Ym ?_ | refine Yn ?_ | refine Yo ?_ | refine Yp (h := ?_) | refine Yq ?_ | refine Yr ?_ | refine Ys ?_ | refine Zr hc (hk := ?_) | refine Zd hc (hk := ?_) | (refine Zc (ht := fun hb => ?_) (hf := fun hb => ?_) <;> (try simp at hb)) | fail) | (first | refine Zo hc (hk := ?_) | refine Zu hc (hk := ?_) | refine Ze hc (hk := ?_) | refine Zn hc (hk := ?_) | fail))
    all_goals try (exfalso; omega)
    · rw [if_pos hb] at hA
      exact ⟨(j + 1, n + 1), ⟨by simp only; omega, by simp only; omega, by simp only; omega⟩, by simp only; omega, run_back [2, 3, 11, 33, 34, 35] [3] (by simp; exact Gives.mk) (by simp; exact Gives.mk) (by simp)⟩
    · rw [if_neg (fun h => by
        have := hb h.1
        omega)] at hA
      exact ⟨(j + 1, n), ⟨by simp only; omega, by simp only; omega, by simp only; omega⟩, by simp only; omega, run_back [2, 3, 11, 33, 34, 35] [3] (by simp; exact Gives.mk) (by simp; exact Gives.mk) (by simp)⟩
  · rw [spentGo.eq_def l (t - f.window) t j, if_neg hlt] at hA
    repeat' (first | (first | refine Ya ?_ | refine Yb ?_ | refine Yc ?_ | refine Yd ?_ | refine Ye ?_ | refine Yf ?_ | refine Yg ?_ | refine Yh ?_ | refine Yi ?_ | refine Yj ?_ | refine Yk ?_ | refine Yl ?_ | refine Ym ?_ | refine Yn ?_ | refine Yo ?_ | refine Yp (h := ?_) | refine Yq ?_ | refine Yr ?_ | refine Ys ?_ | refine Zr hc (hk := ?_) | refine Zd hc (hk := ?_) | (refine Zc (ht := fun hb => ?_) (hf := fun hb => ?_) <;> (try simp at hb)) | fail) | (first | refine Zo hc (hk := ?_) | refine Zu hc (hk := ?_) | refine Ze hc (hk := ?_) | refine Zn hc (hk := ?_) | fail))
    all_goals try (exfalso; omega)
    rw [hA]
    (refine Zl hc (hr := ?_))
    simp
end Go.Proofs.YtnainpghpjelcaaGreatDoor
