/-
  A CALL THAT HANDS BACK SOMETHING OF WHICH A PART IS NOT KNOWN (an error, say).
-/
import Derived.Test.YtnainpghpjelcaaGreatDoorLwRun
set_option linter.unusedSimpArgs false
set_option linter.unusedVariables false
namespace Go.Lw
open Go Go.RowKit

/-- THE CONTRACT OF A PURE FUNCTION, its result not all data. -/
def FnV (P : Program) (f : FuncId) (args : List D) (res : V) : Prop :=
  callB P f = true ∧ ∀ (ok : Nat → Prop) (w : World) (vs : Array Value), (∀ k, ok k → k < w.heap.size) → Std P w → ArgsRd w ok args vs →
    Calls P f vs w fun e w' => ∃ v, e = .returned v ∧ Below w.heap.size w w' ∧ ∀ h, RdV w' (fresh ok w w') h res v
section
variable {C : Ctx} {P : Program} {nt : Nat} {st st' : St} {Q : Exit → St → Prop} {K : St → Prop} {o : Oper} {rest : List Oper} {ops : Array Oper}
theorem opsW_callV {x : Operand} {f : FuncId} {args : Array Operand} {ts : Array TypeId} {y : V} {xs caps : List V} {ds : List D} {g : Bool} {res : V} (hc : CtxOk C)
    (hw : gE ops o st = some g) (ho : o.op = .call { callee := .value x, args := args, argTypes := ts }) (hy : ev g st x = some y) (hx : calleeE (some y) = some (f, caps)) (hl : evL g st args.toList = some xs) (ha : asDL st (xs ++ caps) = some (ds, false))
    (hf : g = true → FnV C.P f ds res) (hd : dstB C.nt o.dst = true) (hk : opsW C ops rest (st.put o.dst (whenE o g res)) K) : opsW C ops (o :: rest) st K := by
  intro a w ⟨ok, h, r⟩ Q hQ
  refine wpList_step fun K' hK => ?_
  rw [wanted_of r hw]
  by_cases hg : g = true
  rotate_left
  · rw [if_neg hg]
    exact hK _ _ (hk _ _ ⟨ok, h, r.put (dstB_spec hd) (whenE_one hw (by simpa using hg))⟩ Q hQ)
  rw [if_pos hg]
  replace hf := hf hg
  unfold Oper.wp
  obtain ⟨cs, h1, h2, h3⟩ := callArgs_sound hg r hx (ev_sound hg r hy) hl
  rw [Array.toArray_toList] at h2 h3
  rw [run_call hf.1 ho h1, Oper.upon_enter]
  refine (hf.2 ok w _ (fun k hk => (r.mem.okb k hk).1) (r.mem.std hc) (args_rd r ha h2 h3)).mono fun e w' ⟨v, he, hbl, hr⟩ => ?_
  subst he
  refine hK _ _ (hk _ _ ⟨fresh ok w w', h, ?_⟩ Q hQ)
  have hmem := r.mem.below (ok' := fresh ok w w') hbl (fun b hb => .inl hb) (fun b hb => hb) hc.lt
  have r' : Rep C st (fresh ok w w') h a w' := ⟨hmem, r.defers, r.nt, r.pin, fun i y hy => by
    obtain ⟨h5, u, h6, h7⟩ := r.slot i y hy
    exact ⟨h5, u, h6, h7.mono (fun b hb => hbl.block b (r.mem.okb b hb).1) fun b hb => .inl hb⟩⟩
  exact r'.put (dstB_spec hd) (whenE_yes hg (hr h))
theorem run_callV (hc : CtxIs C P nt) {x : Operand} {f : FuncId} {args : Array Operand} {ts : Array TypeId} {d : Option Tmp} {ty : TypeId} {pos : String} {af : Array Edge} {gd : Option (Nat × Bool)} {y : V} {xs caps : List V} {ds : List D} {g : Bool} {res : V} {st2 : St}
    (hw : Gives (gE ops { dst := d, op := .call { callee := .value x, args := args, argTypes := ts }, type := ty, pos := pos, after := af, guard := gd } st) g)
    (hy : Gives (ev g st x) y) (hx : Gives (calleeE (some y)) (f, caps)) (hl : Gives (evL g st args.toList) xs) (ha : Gives (asDL st (xs ++ caps)) (ds, false)) (hf : g = true → FnV P f ds res) (hd : dstB nt d = true) (h2 : Gives (some (st.put d (if gd.isNone then res else .when g res))) st2) (hk : opsW C ops rest st2 K) :
    opsW C ops ({ dst := d, op := .call { callee := .value x, args := args, argTypes := ts }, type := ty, pos := pos, after := af, guard := gd } :: rest) st K := by
  obtain ⟨rfl, rfl, hok⟩ := hc
  cases h2
  exact opsW_callV hok hw rfl hy hx hl ha hf hd hk
end
end Go.Lw
