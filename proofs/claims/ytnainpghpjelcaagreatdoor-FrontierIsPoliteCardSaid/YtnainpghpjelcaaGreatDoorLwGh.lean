/-
  GHOSTS: a slice of one's own whose very value is named, so that it may lie in a row; calls whose end is known but for such a value.
-/
import Derived.Test.YtnainpghpjelcaaGreatDoorLwFlt
set_option linter.unusedSimpArgs false
set_option linter.unusedVariables false
namespace Go.Lw
open Go.RowKit

section
variable {C : Ctx} {P : Program} {nt : Nat} {st st' : St} {ok : Nat → Prop} {h : Nat → Hd} {a : Act} {w w' : World} {Q : Exit → St → Prop} {K : St → Prop} {ops : Array Oper} {rest l : List Oper}

theorem Rep.ghost (r : Rep C st ok h a w) {g : Nat} {x : V} {v : Value} (hv : RdV w ok h x v) (hs : says g x = false) (hf : freshB g st = true) (hnone : look g st.objs = none) (hid : g < 100000) : Rep C { st with objs := place g (.ghost x v) st.objs } ok (upd h g ⟨none, 0, 0⟩) a w := by
  have hobj : ∀ j o, look j (place g (O.ghost x v) st.objs) = some o → (g = j ∧ o = .ghost x v) ∨ (j ≠ g ∧ look j st.objs = some o) := fun j o hj => by
    rw [look_place] at hj
    split at hj
    · rename_i e'; exact .inl ⟨e', (Option.some.inj hj).symm⟩
    · rename_i e'; exact .inr ⟨fun e1 => e' e1.symm, hj⟩
  have hm := r.mem
  refine ⟨⟨hm.os, hm.tape, hm.output, hm.size, hm.block, hm.okb, fun j o hj => ?_, fun j o b hj hb => ?_, fun j j' o o' b hj hj' hne hb => ?_⟩, r.defers, r.nt, fun j hj => (upd_ne h g _ j (by omega)).trans (r.pin j hj), fun j x hx => ?_⟩
  · rcases hobj j o hj with ⟨rfl, rfl⟩ | ⟨hne, hj⟩
    · exact ⟨by rw [upd_same], hv.swap (upd_ne h g _) hs⟩
    · exact (hm.obj j o hj).swap (upd_ne h g _) hne (fresh_obj hf hne hj)
  · rcases hobj j o hj with ⟨rfl, rfl⟩ | ⟨hne, hj⟩
    · rw [upd_same] at hb; cases hb
    · rw [upd_ne h g _ j hne] at hb
      exact hm.blk j o b hj hb
  · rcases hobj j o hj with ⟨rfl, rfl⟩ | ⟨hne1, hj⟩
    · rw [upd_same] at hb; cases hb
    · rw [upd_ne h g _ j hne1] at hb
      rcases hobj j' o' hj' with ⟨rfl, rfl⟩ | ⟨hne2, hj'⟩
      · rw [upd_same]; intro hx; cases hx
      · rw [upd_ne h g _ j' hne2]
        exact hm.apart j j' o o' b hj hj' hne hb
  · obtain ⟨h1, v, h2, h3⟩ := r.slot j x hx
    exact ⟨h1, v, h2, h3.swap (upd_ne h g _) (fresh_slot hf hx)⟩
/-- A slice of one's own in a slot gets a name for its value. -/
theorem ghost_reps (g t : Nat) {id n : Nat} (hl : look t st.slots = some (.os id n)) (hne : id ≠ g) (hf : freshB g st = true) (hnone : (look g st.objs).isNone = true) (hid : g < 100000) (r : Reps C st a w) :
    ∃ A cap, Reps C ⟨place t (.d (.lit (.slice A n cap))) st.slots, place g (.ghost (.os id n) (.slice A n cap)) st.objs⟩ a w := by
  obtain ⟨ok, h, r⟩ := r
  obtain ⟨h1, v, h2, h3⟩ := r.slot t _ hl
  cases h3 with
  | os _ _ hc =>
    refine ⟨(h id).addr, (h id).cap, ok, upd h g ⟨none, 0, 0⟩, ?_⟩
    have rg := r.ghost (g := g) (x := .os id n) (RdV.os id n hc) (by simpa [says] using hne) hf (by simpa using hnone) hid
    refine ⟨rg.mem, rg.defers, rg.nt, rg.pin, fun i y hi => ?_⟩
    rw [look_place] at hi
    split at hi
    · rename_i e
      subst e; cases hi
      exact ⟨h1, _, h2, .d _ _ (.lit _)⟩
    · exact rg.slot i y hi
/-- What is known of a value comes back. -/
theorem le_unghost (g t : Nat) {x : V} {v : Value} (hl : look t st.slots = some (.d (.lit v))) (hg : look g st.objs = some (.ghost x v)) : Le C ⟨place t x st.slots, st.objs⟩ st := by
  rintro a w ⟨ok, h, r⟩
  refine ⟨ok, h, r.mem, r.defers, r.nt, r.pin, fun i y hi => ?_⟩
  rw [look_place] at hi
  split at hi
  · rename_i e
    subst e; cases hi
    obtain ⟨h1, u, h2, h3⟩ := r.slot t _ hl
    have := lit_of h3
    subst this
    exact ⟨h1, _, h2, (r.mem.obj g _ hg).2⟩
  · exact r.slot i y hi
theorem run_unghost (g t : Nat) {c : Code} {x : V} {v : Value} {st2 : St} (hl : Gives (look t st.slots) (.d (.lit v))) (hg : Gives (look g st.objs) (.ghost x v)) (h2 : Gives (some (St.mk (place t x st.slots) st.objs)) st2) (hk : ewp C c Q st2) : ewp C c Q st := by
  cases h2
  exact ewp_le (le_unghost g t hl hg) hk
/-- A call whose end is known but for something. -/
theorem run_callME (σ : List (Nat × Nat)) {f : FuncId} {cargs : List V} {cobjs : List (Nat × O)} {α : Type} [Inhabited α] {cobjs' : α → List (Nat × O)} {rs : α → V} (hf : FnMemE P f cargs cobjs rs cobjs') (hc : CtxIs C P nt) {x : Operand} {args : Array Operand} {ts : Array TypeId} {d : Option Tmp} {ty : TypeId} {pos : String} {af : Array Edge} {gd : Option (Nat × Bool)} {y : V} {xs caps xc : List V} {ps ps2 : List (Nat × O)} {s2 : α → St} {r2 : α → V}
    (hw : Gives (gE ops { dst := d, op := .call { callee := .value x, args := args, argTypes := ts }, type := ty, pos := pos, after := af, guard := gd } st) true)
    (hy : Gives (ev true st x) y) (hx : Gives (calleeE (some y)) (f, caps)) (hl : Gives (evL true st args.toList) xs) (hxc : Gives (some (xs ++ caps)) xc) (hxs : renL σ cargs = xc) (hps : Gives (some (newObjs σ cobjs)) ps) (hpk : Gives (pickL st.objs (ps.map (·.1))) ps2) (hu : ps = ps2) (hσ : ∀ z, sigB σ cobjs (cobjs' z) (rs z) = true) (hd : dstB nt d = true)
    (h2 : ∀ z, Gives (some (afterM σ (cobjs' z) st)) (s2 z)) (h3 : ∀ z, Gives (some (renV σ (rs z))) (r2 z)) (hk : ∀ z, opsW C ops rest ((s2 z).put d (r2 z)) K) :
    opsW C ops ({ dst := d, op := .call { callee := .value x, args := args, argTypes := ts }, type := ty, pos := pos, after := af, guard := gd } :: rest) st K := by
  obtain ⟨rfl, rfl, hok⟩ := hc
  cases hps; cases hxc
  subst hu
  refine opsW_callME σ hok hw rfl hy hx hl hf hxs ?_ hσ hd fun z => ?_
  · rw [← show _ = some (newObjs σ cobjs) from hpk]
    simp only [newObjs, List.map_map]
    rfl
  · have e2 := Option.some.inj (h2 z)
    have e3 := Option.some.inj (h3 z)
    rw [e2, e3]
    exact hk z
theorem fnMemE {f : FuncId} {fn : Func} {c : Code} {args : List V} {α : Type} {res : α → V} {objs : List (Nat × O)} {objs' : α → List (Nat × O)} (hf : P.funcs[f]? = some fn) (hb : fn.body = some c) (hcall : callB P f = true) (hnt : fn.ntmps = nt) (rs : List ResultVar) (hrs : fn.results = rs.toArray) (hn : args.length ≤ nt ∧ nt ≤ 50000 ∧ objs.all (fun p => decide (50000 ≤ p.1)) = true)
    (hbody : ∀ C : Ctx, CtxIs C P nt → ewp C c (fun e st => ∃ y, LeavesM C rs (res y) (objs' y) e st) ⟨slotsV 0 args, objs⟩) : FnMemE P f args objs res objs' :=
  fnMemE_of hf hb hcall (by omega) (by omega) hn.2.2 rs hrs fun C h1 h2 h3 => hbody C ⟨h1, h2.trans hnt, h3⟩
/-- .. in a region that draws its order. -/
theorem anyW_ghost {listed : Array Bool} {fuel : Nat} (g t : Nat) {id n : Nat} (hl : look t st.slots = some (.os id n)) (hne : id ≠ g) (hf : freshB g st = true) (hnone : (look g st.objs).isNone = true) (hid : g < 100000)
    (hk : ∀ A cap, anyW C ops fuel listed ⟨place t (.d (.lit (.slice A n cap))) st.slots, place g (.ghost (.os id n) (.slice A n cap)) st.objs⟩ K) : anyW C ops fuel listed st K := by
  intro a w r
  obtain ⟨A, cap, r'⟩ := ghost_reps g t hl hne hf hnone hid r
  exact hk A cap a w r'
theorem anyW_unghost {listed : Array Bool} {fuel : Nat} (g t : Nat) {x : V} {v : Value} {st2 : St} (hl : Gives (look t st.slots) (.d (.lit v))) (hg : Gives (look g st.objs) (.ghost x v)) (h2 : Gives (some (St.mk (place t x st.slots) st.objs)) st2) (hk : anyW C ops fuel listed st2 K) : anyW C ops fuel listed st K := by
  cases h2
  intro a w r
  exact hk a w (le_unghost g t hl hg a w r)
/-- The region in all orders; what is behind it follows each. -/
theorem run_drawAnyQ (n : Nat) {id : Nat} {l : List Oper} (hc : CtxIs C P nt) (hm : P.follows .mixedOrders = true) (hn : l.length = n) (hl : anyW C l.toArray n (Array.replicate n false) st fun st' => Q .normal st') : ewp C (.region id l.toArray true) Q st := by
  obtain ⟨rfl, rfl, hok⟩ := hc
  subst hn
  rintro a w ⟨ok, h, r⟩
  refine wp_mono (Q := fun e a' w' => e = .normal ∧ ∃ st', Q .normal st' ∧ Reps C st' a' w') (wp_region_any hm (hl a _ ⟨ok, h, ?_⟩ _ (fun a' w' st' hq r' => ⟨rfl, st', hq, r'⟩) fun c a w hq => by cases hq.1)) ?_
  · exact r.below hok ((Below.refl _ w).drew)
  · rintro e a' w' ⟨rfl, st', hq, r'⟩
    exact ⟨st', hq, r'⟩
end
end Go.Lw
