/-
  A function that hands back a row of its own hands back data.
-/
import Derived.Test.YtjbabjfmcganpaaGreatDoorLwRun
import Derived.Test.YtjbabjfmcganpaaGreatDoorLwTail
set_option linter.unusedSimpArgs false
set_option linter.unusedVariables false
namespace Go.Lw
open Go.RowKit

/-- Captured data is data. -/
@[simp] theorem asDL_data (st : St) (caps : List D) : asDL st (caps.map V.d) = some (caps, false) := by
  induction caps with
  | nil => rfl
  | cons x r ih => simp [asDL, asD, asLeaf, ih]
end Go.Lw
/-
  A call with objects lent as one of the steps of a region in all orders.
-/
set_option linter.unusedSimpArgs false
set_option linter.unusedVariables false
namespace Go.Proofs.YtjbabjfmcganpaaGreatDoor
open Go.Lw Go.RowKit
set_option maxRecDepth 100000
set_option maxHeartbeats 2000000

section
variable {C : Ctx} {P : Program} {nt : Nat} {st : St} {K : St → Prop} {ops : Array Oper} {i : Nat}
end
theorem anyW_le {C : Ctx} {ops : Array Oper} {fuel : Nat} {listed : Array Bool} {st st' : St} {K : St → Prop} (hl : Le C st' st) (hx : anyW C ops fuel listed st' K) : anyW C ops fuel listed st K := fun a w r => hx a w (hl a w r)
/-! The rules in short: what is reckoned is left out. -/
section
variable {C : Ctx} {P : Program} {nt : Nat} {st st' : St} {x : V} {p : Prop} {K : St → Prop} {Q : Exit → St → Prop} {ops : Array Oper} {listed : Array Bool} {fuel i : Nat} {o : Oper}
theorem Xp (i : Nat) (hc : CtxIs C P nt) (hi : ops[i]? = some o := by rfl) (hB : (Region.noSelect ops && Region.free .any ops listed i && (Region.ready .any ops listed).contains i) = true := by kernel_rfl) (hg : o.guard = none := by rfl)
    (he : Gives (ro P (fun g => ev g (flatS st)) true [] o.op) (x, p) := by simp; exact Gives.mk) (hp : p := by first | exact True.intro | omega | (simp; done) | (simp; omega) | (simp at *; omega)) (hx : flatV x = true := by simp) (hd : dstB nt o.dst = true := by simp) {st2 : St} (h2 : Gives (some (st.put o.dst x)) st2 := by simp; exact Gives.mk) (hk : anyW C ops fuel (listed.setIfInBounds i true) st2 K) : anyW C ops (fuel + 1) listed st K := run_anyP i hc hi hB hg he hp hx hd h2 hk
theorem Xm (i : Nat) {y : Operand} (hc : CtxIs C P nt) (hi : ops[i]? = some o := by rfl) (hB : (Region.noSelect ops && Region.free .any ops listed i && (Region.ready .any ops listed).contains i) = true := by kernel_rfl) (hg : o.guard = none := by rfl)
    (ho : o.op = .move y ∨ o.op = .assign y := by first | exact .inl rfl | exact .inr rfl) (he : Gives (ev true st y) x := by simp; exact Gives.mk) (hd : dstB nt o.dst = true := by simp) {st2 : St} (h2 : Gives (some (st.put o.dst x)) st2 := by simp; exact Gives.mk) (hk : anyW C ops fuel (listed.setIfInBounds i true) st2 K) : anyW C ops (fuel + 1) listed st K := run_anyM i hc hi hB hg ho he hd h2 hk
theorem Xw (hc : CtxIs C P nt) (hi : ops[i]? = some o := by rfl) (he : Lw.Ends (step1 P nt ops false o (.go st True)) st' p [] := by simp; exact Ends.go) (hp : p := by first | exact True.intro | omega | (simp; done) | (simp; omega) | (simp at *; omega)) (hk : K st') : stepW C ops i st K := run_stepW hc hi he hp hk
theorem Xa (rs : List Nat) (hr : Region.ready .any ops listed = rs := by kernel_rfl) (hne : rs.isEmpty = false := by rfl) (hx : eachW C ops fuel listed st K rs) : anyW C ops (fuel + 1) listed st K := anyW_all rs hr hne hx
theorem Xz (hr : Region.ready .any ops listed = [] := by kernel_rfl) (hk : K st) : anyW C ops fuel listed st K := anyW_done hr hk
theorem Xq {s2 : St} (hq : anyW C ops fuel listed s2 K) (h1 : pickL st.slots (s2.slots.map (·.1)) = some s2.slots := by simp) (h2 : pickL st.objs (s2.objs.map (·.1)) = some s2.objs := by simp) : anyW C ops fuel listed st K :=
  anyW_le (Le.keep _ _ h1 h2) hq
theorem Xk (is ids : List Nat) {sl : List (Nat × V)} {os : List (Nat × O)} (h1 : Gives (pickL st.slots is) sl := by simp; try exact Gives.mk) (h2 : Gives (pickL st.objs ids) os := by simp; try exact Gives.mk) : Le C ⟨sl, os⟩ st := run_keep is ids h1 h2
theorem Xd (n : Nat) {st1 : St} {id : Nat} {l : List Oper} (hc : CtxIs C P nt) (hm : P.follows .mixedOrders = true := by kernel_rfl) (hn : l.length = n := by rfl) (hl : anyW C l.toArray n (Array.replicate n false) st fun st' => Le C st1 st') (hk : Q .normal st1) : ewp C (.region id l.toArray true) Q st := run_drawAny n hc hm hn hl hk
end
end Go.Proofs.YtjbabjfmcganpaaGreatDoor
