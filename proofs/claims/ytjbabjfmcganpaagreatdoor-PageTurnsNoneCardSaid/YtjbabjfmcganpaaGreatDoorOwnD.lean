/-
  A call with objects lent as one of the steps of a region in all orders.
-/
import Derived.Test.YtjbabjfmcganpaaGreatDoorLwFlt
import Derived.Test.YtjbabjfmcganpaaGreatDoorLwRun
set_option linter.unusedSimpArgs false
set_option linter.unusedVariables false
namespace Go.Proofs.YtjbabjfmcganpaaGreatDoor
open Go.Lw Go.RowKit
set_option maxRecDepth 100000
set_option maxHeartbeats 2000000

theorem wp_norm {P : Program} {o : Oper} {a : Act} {w : World} {K : Act → World → Prop} {Q : Exit → Act → World → Prop} (hh : o.wp P a w K (fun e a w => e = .normal ∧ K a w)) : o.wp P a w K Q := by
  unfold Oper.wp at *
  generalize (execOp a.eval o).run P w = r at *
  cases r with
  | ok n w' =>
    cases n <;> simp only [Oper.upon] at hh ⊢ <;>
      first
        | exact hh
        | exact Calls.mono hh (fun e w'' he => by
            cases e with
            | returned v => exact he
            | panicked c => exact absurd he.1 (fun h => by cases h)
            | outgrown =>
              obtain ⟨_, _, h, _⟩ := he
              cases h)
        | exact absurd hh.1 (fun h => by cases h)
        | (obtain ⟨_, _, h, _⟩ := hh; cases h)
  | halt x w' =>
    cases x <;> simp only [Oper.upon] at hh ⊢ <;>
      first
        | exact hh
        | exact absurd hh.1 (fun h => by cases h)
        | (obtain ⟨_, _, h, _⟩ := hh; cases h)
theorem stepW_of_opsW {C : Ctx} {ops : Array Oper} {i : Nat} {o : Oper} {st : St} {K : St → Prop} (hi : ops[i]? = some o) (h : opsW C ops [o] st K) : stepW C ops i st K := by
  intro a w r Q K' hQ
  have h2 := h a w r (fun e a w => e = .normal ∧ K' a w) (fun a' w' st' hk r' => ⟨rfl, hQ a' w' st' hk r'⟩)
  unfold wpOp
  rw [hi]
  unfold wpList at h2
  simp only
  split
  · rename_i hw
    rw [if_pos hw] at h2
    rcases h2 with h3 | ⟨_, _, _, h4, _⟩
    · left
      refine wp_norm ?_
      refine Oper.wp_mono (fun a w h => ?_) h3
      exact h.2
    · cases h4
  · rename_i hw
    rw [if_neg hw] at h2
    exact h2.2
section
variable {C : Ctx} {P : Program} {nt : Nat} {st : St} {K : St → Prop} {ops : Array Oper} {i : Nat}
theorem run_stepM (σ : List (Nat × Nat)) {f : FuncId} {cargs : List V} {cobjs cobjs' : List (Nat × O)} {rs : V} (hf : FnMem P f cargs cobjs rs cobjs') (hc : CtxIs C P nt) {x : Operand} {args : Array Operand} {ts : Array TypeId} {d : Option Tmp} {ty : TypeId} {pos : String} {af : Array Edge} {gd : Option (Nat × Bool)} {y : V} {xs caps xc : List V} {ps ps2 : List (Nat × O)} {s2 : St} {r2 : V}
    (hi : ops[i]? = some { dst := d, op := .call { callee := .value x, args := args, argTypes := ts }, type := ty, pos := pos, after := af, guard := gd })
    (hw : Gives (gE ops { dst := d, op := .call { callee := .value x, args := args, argTypes := ts }, type := ty, pos := pos, after := af, guard := gd } st) true)
    (hy : Gives (ev true st x) y) (hx : Gives (calleeE (some y)) (f, caps)) (hl : Gives (evL true st args.toList) xs) (hxc : Gives (some (xs ++ caps)) xc) (hxs : renL σ cargs = xc) (hps : Gives (some (newObjs σ cobjs)) ps) (hpk : Gives (pickL st.objs (ps.map (·.1))) ps2) (hu : ps = ps2) (hσ : sigB σ cobjs cobjs' rs = true) (hd : dstB nt d = true)
    (h2 : Gives (some (afterM σ cobjs' st)) s2) (h3 : Gives (some (renV σ rs)) r2) (hk : K (s2.put d r2)) : stepW C ops i st K :=
  stepW_of_opsW hi (run_callM σ hf hc hw hy hx hl hxc hxs hps hpk hu hσ hd h2 h3 (opsW_nil hk))
end
theorem anyW_le {C : Ctx} {ops : Array Oper} {fuel : Nat} {listed : Array Bool} {st st' : St} {K : St → Prop} (hl : Le C st' st) (hx : anyW C ops fuel listed st' K) : anyW C ops fuel listed st K := fun a w r => hx a w (hl a w r)
/-! The rules in short: what is reckoned is left out. -/
section
variable {C : Ctx} {P : Program} {nt : Nat} {st st' : St} {x : V} {p : Prop} {K : St → Prop} {Q : Exit → St → Prop} {ops : Array Oper} {listed : Array Bool} {fuel i : Nat} {o : Oper}
theorem Xp (i : Nat) (hc : CtxIs C P nt) (hi : ops[i]? = some o := by rfl) (hB : (Region.noSelect ops && Region.free .any ops listed i && (Region.ready .any ops listed).contains i) = true := by kernel_rfl) (hg : o.guard = none := by rfl)
    (he : Gives (ro P (fun g => ev g (flatS st)) true [] o.op) (x, p) := by simp; exact Gives.mk) (hp : p := by first | exact True.intro | omega | (simp; done) | (simp; omega) | (simp at *; omega)) (hx : flatV x = true := by simp) (hd : dstB nt o.dst = true := by simp) {st2 : St} (h2 : Gives (some (st.put o.dst x)) st2 := by simp; exact Gives.mk) (hk : anyW C ops fuel (listed.setIfInBounds i true) st2 K) : anyW C ops (fuel + 1) listed st K := run_anyP i hc hi hB hg he hp hx hd h2 hk
theorem Xm (i : Nat) {y : Operand} (hc : CtxIs C P nt) (hi : ops[i]? = some o := by rfl) (hB : (Region.noSelect ops && Region.free .any ops listed i && (Region.ready .any ops listed).contains i) = true := by kernel_rfl) (hg : o.guard = none := by rfl)
    (ho : o.op = .move y ∨ o.op = .assign y := by first | exact .inl rfl | exact .inr rfl) (he : Gives (ev true st y) x := by simp; exact Gives.mk) (hd : dstB nt o.dst = true := by simp) {st2 : St} (h2 : Gives (some (st.put o.dst x)) st2 := by simp; exact Gives.mk) (hk : anyW C ops fuel (listed.setIfInBounds i true) st2 K) : anyW C ops (fuel + 1) listed st K := run_anyM i hc hi hB hg ho he hd h2 hk
theorem Xw (hc : CtxIs C P nt) (hi : ops[i]? = some o := by rfl) (he : Lw.Ends (step1 P nt ops false o (.go st True)) st' p [] := by simp; exact Ends.go) (hp : p := by first | exact True.intro | omega | (simp; done) | (simp; omega) | (simp at *; omega)) (hk : K st') : stepW C ops i st K := run_stepW hc hi he hp hk
theorem Xa (rs : List Nat) (hr : Region.ready .any ops listed = rs := by kernel_rfl) (hne : rs.isEmpty = false := by rfl) (hx : eachW C ops fuel listed st K rs) : anyW C ops (fuel + 1) listed st K := anyW_all rs hr hne hx
theorem Xz (hr : Region.ready .any ops listed = [] := by kernel_rfl) (hk : K st) : anyW C ops fuel listed st K := anyW_done hr hk
theorem Xq {s2 : St} (hq : anyW C ops fuel listed s2 K) (h1 : pickL st.slots (s2.slots.map (·.1)) = some s2.slots := by simp) (h2 : pickL st.objs (s2.objs.map (·.1)) = some s2.objs := by simp) : anyW C ops fuel listed st K :=
  anyW_le (Le.keep _ _ h1 h2) hq
theorem Xk (is ids : List Nat) {sl : List (Nat × V)} {os : List (Nat × O)} (h1 : Gives (pickL st.slots is) sl := by simp; try exact Gives.mk) (h2 : Gives (pickL st.objs ids) os := by simp; try exact Gives.mk) : Le C ⟨sl, os⟩ st := run_keep is ids h1 h2
theorem Xd (n : Nat) {st1 : St} {id : Nat} {l : List Oper} (hc : CtxIs C P nt) (hm : P.follows .mixedOrders = true := by kernel_rfl) (hn : l.length = n := by rfl) (hl : anyW C l.toArray n (Array.replicate n false) st fun st' => Le C st1 st') (hk : Q .normal st1) : ewp C (.region id l.toArray true) Q st := run_drawAny n hc hm hn hl hk
end
end Go.Proofs.YtjbabjfmcganpaaGreatDoor
/-
  A function that hands back a row of its own hands back data.
-/
set_option linter.unusedSimpArgs false
set_option linter.unusedVariables false
namespace Go.Lw
open Go.RowKit

/-- Captured data is data. -/
@[simp] theorem asDL_data (st : St) (caps : List D) : asDL st (caps.map V.d) = some (caps, false) := by
  induction caps with
  | nil => rfl
  | cons x r ih => simp [asDL, asD, asLeaf, ih]
end Go.Lw
