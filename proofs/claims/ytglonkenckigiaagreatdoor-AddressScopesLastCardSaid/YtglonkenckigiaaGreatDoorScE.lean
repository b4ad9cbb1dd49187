/-
  ADDRESS: AddressScopesLast's own walk. (WITH run_drawN.)
-/
import Derived.Test.YtglonkenckigiaaGreatDoorScD
set_option linter.unusedSimpArgs false
set_option linter.unusedVariables false
namespace Go.Proofs.YtglonkenckigiaaGreatDoor
open Go.Lw Go.RowKit Go.ChangeShapes Go.WideShapes Go.ChangeAt
set_option maxRecDepth 100000
set_option maxHeartbeats 2000000

theorem wp_norm {P : Program} {o : Oper} {a : Act} {w : World} {K : Act → World → Prop} {Q : Exit → Act → World → Prop} (hh : o.wp P a w K (fun e a w => e = .normal ∧ K a w)) : o.wp P a w K Q := by
  unfold Oper.wp at *
  generalize (execOp a.eval o).run P w = r at *
  cases r with
  | ok n w' =>
    cases n <;> simp only [Oper.upon] at hh ⊢ <;>
      first
        | exact hh
        | exact Calls.mono hh (fun e w'' he => by
            cases e with
            | returned v => exact he
            | panicked c => exact absurd he.1 (fun h => by cases h)
            | outgrown =>
              obtain ⟨_, _, h, _⟩ := he
              cases h)
        | exact absurd hh.1 (fun h => by cases h)
        | (obtain ⟨_, _, h, _⟩ := hh; cases h)
  | halt x w' =>
    cases x <;> simp only [Oper.upon] at hh ⊢ <;>
      first
        | exact hh
        | exact absurd hh.1 (fun h => by cases h)
        | (obtain ⟨_, _, h, _⟩ := hh; cases h)
theorem stepW_of_opsW {C : Ctx} {ops : Array Oper} {i : Nat} {o : Oper} {st : St} {K : St → Prop} (hi : ops[i]? = some o) (h : opsW C ops [o] st K) : stepW C ops i st K := by
  intro a w r Q K' hQ
  have h2 := h a w r (fun e a w => e = .normal ∧ K' a w) (fun a' w' st' hk r' => ⟨rfl, hQ a' w' st' hk r'⟩)
  unfold wpOp
  rw [hi]
  unfold wpList at h2
  simp only
  split
  · rename_i hw
    rw [if_pos hw] at h2
    rcases h2 with h3 | ⟨_, _, _, h4, _⟩
    · left
      refine wp_norm ?_
      refine Oper.wp_mono (fun a w h => ?_) h3
      exact h.2
    · cases h4
  · rename_i hw
    rw [if_neg hw] at h2
    exact h2.2
section
variable {C : Ctx} {P : Program} {nt : Nat} {st : St} {K : St → Prop} {ops : Array Oper} {i : Nat}
theorem run_stepM (σ : List (Nat × Nat)) {f : FuncId} {cargs : List V} {cobjs cobjs' : List (Nat × O)} {rs : V} (hf : FnMem P f cargs cobjs rs cobjs') (hc : CtxIs C P nt) {x : Operand} {args : Array Operand} {ts : Array TypeId} {d : Option Tmp} {ty : TypeId} {pos : String} {af : Array Edge} {gd : Option (Nat × Bool)} {y : V} {xs caps xc : List V} {ps ps2 : List (Nat × O)} {s2 : St} {r2 : V}
    (hi : ops[i]? = some { dst := d, op := .call { callee := .value x, args := args, argTypes := ts }, type := ty, pos := pos, after := af, guard := gd })
    (hw : Gives (gE ops { dst := d, op := .call { callee := .value x, args := args, argTypes := ts }, type := ty, pos := pos, after := af, guard := gd } st) true)
    (hy : Gives (ev true st x) y) (hx : Gives (calleeE (some y)) (f, caps)) (hl : Gives (evL true st args.toList) xs) (hxc : Gives (some (xs ++ caps)) xc) (hxs : renL σ cargs = xc) (hps : Gives (some (newObjs σ cobjs)) ps) (hpk : Gives (pickL st.objs (ps.map (·.1))) ps2) (hu : ps = ps2) (hσ : sigB σ cobjs cobjs' rs = true) (hd : dstB nt d = true)
    (h2 : Gives (some (afterM σ cobjs' st)) s2) (h3 : Gives (some (renV σ rs)) r2) (hk : K (s2.put d r2)) : stepW C ops i st K :=
  stepW_of_opsW hi (run_callM σ hf hc hw hy hx hl hxc hxs hps hpk hu hσ hd h2 h3 (opsW_nil hk))
end
theorem cloneScp_ok (L : List Scp) (hm : L.length * 32 ≤ reachBytes) : FnMem Tryz.prog 23 [.d (scpSl L)] [] (.os 5 L.length) [(5, .own 38 3 (true, [int 0, str [], tru false]) (L.map scpCells))] := by
  refine fnMem Tryz.func23 rfl (by kernel_rfl) Tryz.ntmps23 _ rfl (by simp) fun C hc => ?_
  simp only [reachBytes] at hm
  repeat' (first | (first | refine Ya ?_ | refine Yb ?_ | refine Yc ?_ | refine Yd ?_ | refine Ye ?_ | refine Yf ?_ | refine Yg ?_ | refine Yh ?_ | refine Yi ?_ | refine Yj ?_ | refine Yk ?_ | refine Yl ?_ | refine Ym ?_ | refine Yn ?_ | refine Yo ?_ | refine Yp (h := ?_) | refine Yq ?_ | refine Yr ?_ | refine Ys ?_ | refine Zr hc (hk := ?_) | refine Zd hc (hk := ?_) | (refine Zc (ht := fun hb => ?_) (hf := fun hb => ?_) <;> (try simp at hb)) | fail) | (refine run_isNil hc (by simp; exact Gives.mk) (by simp; exact Gives.mk) (by simp; exact Gives.mk) (by simp) (fun bn hbn => ?_)) | (first | refine Zo hc (hk := ?_) | refine Zu hc (hk := ?_) | refine Ze hc (hk := ?_) | refine Zn hc (hk := ?_) | fail))
  · have h0 := hbn hb
    obtain rfl : L = [] := by simpa using h0
    exact run_leaveM [5] hc (le_births [(2, none, 5, 38, [int 0, str [], tru false])] (by simp; exact Gives.mk) (le_end rfl)) (by simp; exact Gives.mk) (by simp; exact Gives.mk) (by simp) (by simp)
  · refine run_leaveM [5] hc (le_end rfl) (by simp; exact Gives.mk) (by simp; exact Gives.mk) (by simp) ?_
    simpa [scpAt] using map_range_getD L scp0 scpCells
/-! The plain law. -/
theorem scpAt_app (L : List Scp) (x : Scp) {i : Nat} (hi : i < L.length) : scpAt (L ++ [x]) i = scpAt L i := by
  simp only [scpAt]
  rw [List.getElem?_append_left hi]
theorem scpAt_last (L : List Scp) (x : Scp) : scpAt (L ++ [x]) L.length = x := by simp [scpAt]
theorem inAt_app (L : List Scp) (x : Scp) (k : Bs) : ∀ n, n ≤ L.length → inAt (L ++ [x]) k n = inAt L k n
  | 0, _ => rfl
  | n + 1, h => by rw [inAt, inAt, scpAt_app L x (by omega), inAt_app L x k n (by omega)]
theorem scpGo_zero (L : List Scp) (j : Nat) (h : ∀ i, j ≤ i → i < L.length → scpE (scpAt L i) = 0) : scpGo L j = 0 := by
  rw [scpGo]
  split
  · rename_i hj
    rw [if_neg (fun e => e (h j (Nat.le_refl _) hj))]
    exact scpGo_zero L (j + 1) fun i hi hi2 => h i (by omega) hi2
  · rfl
termination_by L.length - j
theorem scpC_app {L : List Scp} {x : Scp} (h : scpC (L ++ [x]) = 0) : scpC L = 0 ∧ scpE x = 0 := by
  unfold scpC at h
  split at h
  · cases h
  rename_i hl
  simp at hl
  have ha := scpGo_all _ 0 h
  refine ⟨?_, ?_⟩
  · unfold scpC
    rw [if_neg (by omega)]
    refine scpGo_zero L 0 fun i _ hi => ?_
    rw [← scpAt_app L x hi]
    exact ha i (by omega) (by simp; omega)
  · have := ha L.length (by omega) (by simp)
    rw [scpAt_last] at this
    exact this
theorem scopesLast_ok (L : List Scp) (x : Scp) (k : Bs) (hL : ScpsFit L) (hx : ScpFits x) (hk : k.length ≤ maxLen) : FnOk Tryz.prog 6 [scpSl L, scpD x, str k] (tru true) := by
  have hkm : k.length ≤ 9223372036854775807 := by simp only [maxLen] at hk; omega
  have hL2 := hL.2
  simp only [reachBytes] at hL2
  have hxm : x.2.1.length ≤ 9223372036854775807 := by have := hx.2; simp only [reachBytes] at this; omega
  have hn := scp_atL hL.1.2
  have hn2 := scp_atL (L := L ++ [x]) (fun y hy => (List.mem_append.1 hy).elim (hL.1.2 y) (fun e => by simp at e; subst e; exact hx))
  refine fnOk Tryz.func6 rfl (by kernel_rfl) Tryz.ntmps6 _ rfl (by simp) fun C hc => ?_
  have hC := cloneScp_ok L hL.2
  have h1 : FnOk Tryz.prog 24 [.sl (L.length + 1) fun i => (L.map scpCells ++ [[int x.1, str x.2.1, tru x.2.2]])[i]?.getD [int 0, str [], tru false], str k] (.tup [tru (inC (L ++ [x]) k).1, int (inC (L ++ [x]) k).2]) := by
    have h := inScope_ok (L ++ [x]) k (by simp; omega) hn2 hkm
    have hs := Sim.rows (e := scpCells) (dflt := scp0) (es := L.map scpCells ++ [[int x.1, str x.2.1, tru x.2.2]]) (z := [int 0, str [], tru false]) (L ++ [x]) (by simp)
    simp only [List.length_append, List.length_singleton, List.getD_eq_getElem?_getD] at hs
    refine FnOk.sim (.cons hs (.cons (.refl _) .nil)) ?_
    have h' : FnOk Tryz.prog 24 [.sl (L ++ [x]).length fun i => scpCells ((L ++ [x])[i]?.getD scp0), str k] (.tup [tru (inC (L ++ [x]) k).1, int (inC (L ++ [x]) k).2]) := h
    rw [show (L ++ [x]).length = L.length + 1 by simp] at h'
    exact h'
  have h2 := inScope_ok L k (by omega) hn hkm
  have h3 := coversF_ok x k hxm hkm
  have hlaw : (inC (L ++ [x]) k).2 = 0 → (inC L k).2 = 0 ∧ (covC x k).2 = 0 ∧ (inC (L ++ [x]) k).1 = (if (covC x k).1 = true then !x.2.2 else (inC L k).1) := fun h => by
    have h0 : chkK (L ++ [x]) k = 0 := Classical.byContradiction fun e => by
      unfold inC at h
      rw [if_pos e] at h
      exact e h
    have hs : scpC (L ++ [x]) = 0 := Classical.byContradiction fun e => by
      rw [chk_no e] at h0
      exact e h0
    rw [chk_yes hs] at h0
    obtain ⟨s1, s2⟩ := scpC_app hs
    have e1 : inC L k = (inAt L k L.length, 0) := by
      unfold inC
      rw [chk_yes s1, if_neg (fun e => e h0)]
    have e2 : covC x k = (covP x k, 0) := by
      unfold covC
      rw [chk_yes (by rw [scpC_one]; exact s2), if_neg (fun e => e h0)]
    have e3 : inC (L ++ [x]) k = (inAt (L ++ [x]) k (L.length + 1), 0) := by
      unfold inC
      rw [chk_yes hs, if_neg (fun e => e h0)]
      simp
    rw [e1, e2, e3]
    refine ⟨rfl, rfl, ?_⟩
    rw [inAt, scpAt_last, inAt_app L x k L.length (Nat.le_refl _)]
  have hno : (inC (L ++ [x]) k).2 ≠ 0 → (inC (L ++ [x]) k).1 = false := fun h => by
    unfold inC at h ⊢
    split
    · rfl
    · rename_i e
      rw [if_neg e] at h
      exact absurd rfl h
  generalize inC (L ++ [x]) k = a at h1 hlaw hno
  generalize inC L k = b at h2 hlaw
  generalize covC x k = c at h3 hlaw
  obtain ⟨a1, a2⟩ := a
  obtain ⟨b1, b2⟩ := b
  obtain ⟨c1, c2⟩ := c
  simp only at h1 h2 h3 hlaw hno
  repeat' (first | refine Ya ?_ | refine Yb ?_ | refine Yc ?_ | refine Yd ?_ | refine Ye ?_ | refine Yf ?_ | refine Yg ?_ | refine Yh ?_ | refine Yi ?_ | refine Yj ?_ | refine Yk ?_ | refine Yl ?_ | refine Ym ?_ | refine Yn ?_ | refine Yo ?_ | refine Yp (h := ?_) | refine Yq ?_ | refine Yr ?_ | refine Ys ?_ | refine Zr hc (hk := ?_) | refine Zd hc (hk := ?_) | (refine Zc (ht := fun hb => ?_) (hf := fun hb => ?_) <;> (try simp at hb)) | fail)
  (apply run_drawAny 6 hc (by kernel_rfl) rfl; (focus (refine run_anyM 0 hc rfl (by kernel_rfl) rfl (by first | exact .inl rfl | exact .inr rfl) (by simp; exact Gives.mk) (by simp) (by simp; exact Gives.mk) ?_; refine anyW_all [1, 2] (by kernel_rfl) rfl ?_; refine ⟨?_, ?_⟩; (focus (refine run_stepM ([(5, 14)]) (hC) hc rfl (by simp; exact Gives.mk) (by simp; exact Gives.mk) (by simp; exact Gives.mk) (by simp; exact Gives.mk) (by simp; exact Gives.mk) rfl (by simp; exact Gives.mk) (by simp; exact Gives.mk) rfl (by simp) (by simp) (by simp; exact Gives.mk) (by simp; exact Gives.mk) ?_; refine anyW_all [2] (by kernel_rfl) rfl ?_; (focus (refine run_stepW hc rfl (by simp; exact Ends.go) (by first | exact True.intro | omega | (simp; done) | (simp; omega) | (simp at *; omega)) ?_; refine anyW_all [3] (by kernel_rfl) rfl ?_; (focus (refine run_stepW hc rfl (by simp; exact Ends.go) (by first | exact True.intro | omega | (simp; done) | (simp; omega) | (simp at *; omega)) ?_; refine anyW_all [4] (by kernel_rfl) rfl ?_; (focus (refine run_stepW hc rfl (by simp; exact Ends.go) (by first | exact True.intro | omega | (simp; done) | (simp; omega) | (simp at *; omega)) ?_; refine run_anyM 5 hc rfl (by kernel_rfl) rfl (by first | exact .inl rfl | exact .inr rfl) (by simp; exact Gives.mk) (by simp) (by simp; exact Gives.mk) ?_; refine anyW_done (by kernel_rfl) ?_; exact run_keep [0, 2, 4, 7] [4, 14] (by simp; try exact Gives.mk) (by simp; try exact Gives.mk))))))))); (focus (refine run_stepW hc rfl (by simp; exact Ends.go) (by first | exact True.intro | omega | (simp; done) | (simp; omega) | (simp at *; omega)) ?_; refine anyW_all [1, 3] (by kernel_rfl) rfl ?_; refine ⟨?_, ?_⟩; (focus (refine run_stepM ([(5, 14)]) (hC) hc rfl (by simp; exact Gives.mk) (by simp; exact Gives.mk) (by simp; exact Gives.mk) (by simp; exact Gives.mk) (by simp; exact Gives.mk) rfl (by simp; exact Gives.mk) (by simp; exact Gives.mk) rfl (by simp) (by simp) (by simp; exact Gives.mk) (by simp; exact Gives.mk) ?_; refine anyW_all [3] (by kernel_rfl) rfl ?_; (focus (refine run_stepW hc rfl (by simp; exact Ends.go) (by first | exact True.intro | omega | (simp; done) | (simp; omega) | (simp at *; omega)) ?_; refine anyW_all [4] (by kernel_rfl) rfl ?_; (focus (refine run_stepW hc rfl (by simp; exact Ends.go) (by first | exact True.intro | omega | (simp; done) | (simp; omega) | (simp at *; omega)) ?_; refine run_anyM 5 hc rfl (by kernel_rfl) rfl (by first | exact .inl rfl | exact .inr rfl) (by simp; exact Gives.mk) (by simp) (by simp; exact Gives.mk) ?_; refine anyW_done (by kernel_rfl) ?_; exact run_back [0, 2, 4, 7] [4, 14] (by simp; exact Gives.mk) (by simp; exact Gives.mk) (by simp))))))); (focus (refine run_stepW hc rfl (by simp; exact Ends.go) (by first | exact True.intro | omega | (simp; done) | (simp; omega) | (simp at *; omega)) ?_; refine anyW_all [1] (by kernel_rfl) rfl ?_; (focus (refine run_stepM ([(5, 14)]) (hC) hc rfl (by simp; exact Gives.mk) (by simp; exact Gives.mk) (by simp; exact Gives.mk) (by simp; exact Gives.mk) (by simp; exact Gives.mk) rfl (by simp; exact Gives.mk) (by simp; exact Gives.mk) rfl (by simp) (by simp) (by simp; exact Gives.mk) (by simp; exact Gives.mk) ?_; refine anyW_all [4] (by kernel_rfl) rfl ?_; (focus (refine run_stepW hc rfl (by simp; exact Ends.go) (by first | exact True.intro | omega | (simp; done) | (simp; omega) | (simp at *; omega)) ?_; refine run_anyM 5 hc rfl (by kernel_rfl) rfl (by first | exact .inl rfl | exact .inr rfl) (by simp; exact Gives.mk) (by simp) (by simp; exact Gives.mk) ?_; refine anyW_done (by kernel_rfl) ?_; exact run_back [0, 2, 4, 7] [4, 14] (by simp; exact Gives.mk) (by simp; exact Gives.mk) (by simp))))))))))))
  by_cases ha : a2 = 0
  · obtain ⟨rfl, rfl, hlw⟩ := hlaw ha
    clear hlaw hno
    subst ha
    repeat' (first | (first | refine Ya ?_ | refine Yb ?_ | refine Yc ?_ | refine Yd ?_ | refine Ye ?_ | refine Yf ?_ | refine Yg ?_ | refine Yh ?_ | refine Yi ?_ | refine Yj ?_ | refine Yk ?_ | refine Yl ?_ | refine Ym ?_ | refine Yn ?_ | refine Yo ?_ | refine Yp (h := ?_) | refine Yq ?_ | refine Yr ?_ | refine Ys ?_ | refine Zr hc (hk := ?_) | refine Zd hc (hk := ?_) | (refine Zc (ht := fun hb => ?_) (hf := fun hb => ?_) <;> (try simp at hb)) | fail) | (first | refine Zw hc (hf := by first | exact h1 | exact h2 | exact h3 | exact awake_ok) (hk := ?_) | refine Zq hc (hf := by first | exact h1 | exact h2 | exact h3 | exact awake_ok) (hk := ?_) | refine Zo hc (hk := ?_) | refine Zu hc (hk := ?_) | refine Ze hc (hk := ?_) | refine Zn hc (hk := ?_) | fail))
    all_goals try contradiction
    all_goals (refine Zl hc (hr := ?_))
    all_goals simp_all
  · have hn1 := hno ha
    clear hlaw hno
    subst hn1
    repeat' (first | (first | refine Ya ?_ | refine Yb ?_ | refine Yc ?_ | refine Yd ?_ | refine Ye ?_ | refine Yf ?_ | refine Yg ?_ | refine Yh ?_ | refine Yi ?_ | refine Yj ?_ | refine Yk ?_ | refine Yl ?_ | refine Ym ?_ | refine Yn ?_ | refine Yo ?_ | refine Yp (h := ?_) | refine Yq ?_ | refine Yr ?_ | refine Ys ?_ | refine Zr hc (hk := ?_) | refine Zd hc (hk := ?_) | (refine Zc (ht := fun hb => ?_) (hf := fun hb => ?_) <;> (try simp at hb)) | fail) | (first | refine Zw hc (hf := by first | exact h1 | exact awake_ok) (hk := ?_) | refine Zq hc (hf := by first | exact h1 | exact awake_ok) (hk := ?_) | refine Zo hc (hk := ?_) | refine Zu hc (hk := ?_) | refine Ze hc (hk := ?_) | refine Zn hc (hk := ?_) | fail))
    all_goals try contradiction
    (refine Zl hc (hr := ?_))
    simp
end Go.Proofs.YtglonkenckigiaaGreatDoor
