/-
  SEALING: an object of one's own that is never written again is data. A slice against nil.
-/
import Derived.Test.YtglonkenckigiaaGreatDoorLwFn
import Derived.Laws.Cover3
set_option linter.unusedSimpArgs false
set_option linter.unusedVariables false
namespace Go.Lw
open Go.RowKit

/-! What is put in the place of the mentions of objects. -/
def mkClo (fn : Fn) (cs : List V) : V := match allD cs with | some ds => .d (.clo fn ds) | none => .vclo fn cs
def subV (f : V → V) : V → V
  | .d x => .d x
  | .bp id off => f (.bp id off)
  | .el id i off => f (.el id i off)
  | .os id n => f (.os id n)
  | .vagg cs => mkAgg (subL f cs)
  | .vtup cs => mkTup (subL f cs)
  | .vclo fn cs => mkClo fn (subL f cs)
  | .when g x => .when g (subV f x)
  | .any => .any
where subL (f : V → V) : List V → List V
  | [] => []
  | x :: r => subV f x :: subL f r
def okV (q : V → Prop) : V → Prop
  | .d _ | .any => True
  | .bp id off => q (.bp id off)
  | .el id i off => q (.el id i off)
  | .os id n => q (.os id n)
  | .vagg cs | .vtup cs | .vclo _ cs => okL q cs
  | .when _ x => okV q x
where okL (q : V → Prop) : List V → Prop
  | [] => True
  | x :: r => okV q x ∧ okL q r
def subO (f : V → V) : O → O
  | .box t cells => .box t (subV.subL f cells)
  | .own e sz gr es => .own e sz gr es
  | .raw ob => .raw ob
def okO (q : V → Prop) : O → Prop
  | .box _ cells => okV.okL q cells
  | .own .. | .raw _ => True
def okSlots (q : V → Prop) : List (Nat × V) → Prop
  | [] => True
  | (_, x) :: r => okV q x ∧ okSlots q r
def okObjs (q : V → Prop) : List (Nat × O) → Prop
  | [] => True
  | (_, o) :: r => okO q o ∧ okObjs q r
def subObjs (f : V → V) (l : List (Nat × O)) : List (Nat × O) := l.map fun p => (p.1, subO f p.2)
def subSlots (f : V → V) (l : List (Nat × V)) : List (Nat × V) := l.map fun p => (p.1, subV f p.2)

theorem subL_eq (f : V → V) : ∀ cs : List V, subV.subL f cs = cs.map (subV f)
  | [] => rfl
  | x :: r => by simp [subV.subL, subL_eq f r]
theorem okL_mem {q : V → Prop} {cs : List V} (hk : okV.okL q cs) : ∀ x ∈ cs, okV q x := by
  induction cs with
  | nil => intro x hx; cases hx
  | cons y r ih =>
    intro x hx
    cases hx with
    | head => exact hk.1
    | tail _ hx => exact ih hk.2 x hx
theorem okSlots_look {q : V → Prop} {i : Nat} {x : V} : ∀ {l : List (Nat × V)}, okSlots q l → look i l = some x → okV q x
  | [], _, h => by cases h
  | (j, y) :: r, hk, h => by
    simp only [look] at h
    split at h
    · cases h; exact hk.1
    · exact okSlots_look hk.2 h
theorem okObjs_look {q : V → Prop} {i : Nat} {x : O} : ∀ {l : List (Nat × O)}, okObjs q l → look i l = some x → okO q x
  | [], _, h => by cases h
  | (j, y) :: r, hk, h => by
    simp only [look] at h
    split at h
    · cases h; exact hk.1
    · exact okObjs_look hk.2 h

section
variable {C : Ctx} {st st' : St} {ok ok' : Nat → Prop} {h : Nat → Hd} {a : Act} {w w' : World} {o : Oper} {x : V} {p : Prop} {f : V → V} {q : V → Prop}

theorem mkClo_sound {fn : Fn} {cs : List V} {vs : Array Value} {g : Nat → Value} (hn : vs.size = cs.length) (hg : ∀ i, i < cs.length → vs[i]? = some (g i))
    (hx : ∀ i x, cs[i]? = some x → RdV w ok h x (g i)) : RdV w ok h (mkClo fn cs) (.func fn #[] vs) := by
  unfold mkClo
  split
  · rename_i ds hd
    have e := allD_spec hd
    subst e
    refine .d _ _ (.clo fn ds vs g (by simpa using hn) (by simpa using hg) fun i d hi => ?_)
    have := hx i (.d d) (by simp [hi])
    cases this with | d _ _ h => exact h
  · exact .vclo fn cs vs g hn hg hx

theorem RdV.sub {v : Value} (hf : ∀ x v, q x → RdV w ok h x v → RdV w ok' h (f x) v) (ho : ∀ b, ok b → ok' b) (hx : RdV w ok h x v) (hk : okV q x) : RdV w ok' h (subV f x) v := by
  induction hx with
  | d x v hx => exact .d x v (hx.mono (fun _ _ => rfl) ho)
  | any v => exact .any v
  | bp id off b hb => exact hf _ _ hk (.bp id off b hb)
  | el id i off b hb => exact hf _ _ hk (.el id i off b hb)
  | os id n hc => exact hf _ _ hk (.os id n hc)
  | vagg cs vs g hn hg _ ih =>
    refine mkAgg_sound (g := g) (by rw [subL_eq]; simpa using hn) (by rw [subL_eq]; simpa using hg) fun i x hi => ?_
    rw [subL_eq, List.getElem?_map] at hi
    obtain ⟨y, h1, rfl⟩ := Option.map_eq_some_iff.1 hi
    exact ih i y h1 (okL_mem hk y (List.mem_of_getElem? h1))
  | vtup cs vs g hn hg _ ih =>
    refine mkTup_sound (g := g) (by rw [subL_eq]; simpa using hn) (by rw [subL_eq]; simpa using hg) fun i x hi => ?_
    rw [subL_eq, List.getElem?_map] at hi
    obtain ⟨y, h1, rfl⟩ := Option.map_eq_some_iff.1 hi
    exact ih i y h1 (okL_mem hk y (List.mem_of_getElem? h1))
  | vclo fn cs vs g hn hg _ ih =>
    refine mkClo_sound (g := g) (by rw [subL_eq]; simpa using hn) (by rw [subL_eq]; simpa using hg) fun i x hi => ?_
    rw [subL_eq, List.getElem?_map] at hi
    obtain ⟨y, h1, rfl⟩ := Option.map_eq_some_iff.1 hi
    exact ih i y h1 (okL_mem hk y (List.mem_of_getElem? h1))
  | when g x v _ hf' ih => exact .when g _ v (fun e => ih e hk) hf'
theorem RdO.sub {id : Nat} {o : O} (hf : ∀ x v, q x → RdV w ok h x v → RdV w ok' h (f x) v) (ho : ∀ b, ok b → ok' b) (hx : RdO w ok h id o) (hk : okO q o) : RdO w ok' h id (subO f o) := by
  cases o with
  | own => exact hx.mono (fun _ _ => rfl) ho fun _ _ => rfl
  | raw => exact hx
  | box t cells =>
    obtain ⟨b, cs, h1, h2, h3, h4⟩ := hx
    refine ⟨b, cs, h1, h2, by rw [subL_eq]; simpa using h3, fun k x hk' => ?_⟩
    rw [subL_eq, List.getElem?_map] at hk'
    obtain ⟨y, h5, rfl⟩ := Option.map_eq_some_iff.1 hk'
    obtain ⟨v, h6, h7⟩ := h4 k y h5
    exact ⟨v, h6, h7.sub hf ho (okL_mem hk y (List.mem_of_getElem? h5))⟩

/-- What stands for an object that is sealed. -/
def leafOf (id : Nat) : O → Option ((V → V) × (V → Prop))
  | .own _ _ gr es => some (fun
      | .os j n => bif j == id then .d (.sl n fun i => es.getD i gr.2) else .os j n
      | .el j i off => bif j == id then .any else .el j i off
      | x => x, fun
      | .os j n => bif j == id then n ≤ es.length else True
      | _ => True)
  | .box _ cells => (allD cells).map fun ds => (fun
      | .bp j off => bif j == id then .d (.ip ds off) else .bp j off
      | x => x, fun _ => True)
  | .raw _ => none
def sealE (id : Nat) (st : St) : Option (St × Prop) :=
  match look id st.objs with
  | some o => match leafOf id o with
    | some (f, q) => if id < 50000 then some ({ slots := subSlots f st.slots, objs := subObjs f (strike id st.objs) }, okSlots q st.slots ∧ okObjs q (strike id st.objs)) else none
    | none => none
  | none => none

theorem seal_le (hc : CtxOk C) {id : Nat} (he : sealE id st = some (st', p)) (hp : p) : Le C st' st := by
  unfold sealE at he
  split at he
  · rename_i o hl
    split at he
    · rename_i f q hlf
      split at he
      · rename_i hid
        obtain ⟨rfl, rfl⟩ := Prod.mk.inj (Option.some.inj he)
        obtain ⟨hps, hpo⟩ := hp
        rintro a w ⟨ok, h, r⟩
        let ok2 : Nat → Prop := fun b => ok b ∨ (h id).blk = some b
        have hf : ∀ x v, q x → RdV w ok h x v → RdV w ok2 h (f x) v := by
          intro x v hq hx
          have hx2 : RdV w ok2 h x v := hx.mono (fun _ _ => rfl) fun _ hb => .inl hb
          cases o with
          | raw ob => cases hlf
          | own e sz gr es =>
            obtain ⟨rfl, rfl⟩ := Prod.mk.inj (Option.some.inj hlf)
            obtain ⟨hsz, hcm, h5⟩ := r.mem.obj id _ hl
            cases x with
            | os j n =>
              simp only at hq ⊢
              cases hj : (j == id) with
              | false => exact hx2
              | true =>
                rw [hj] at hq
                simp only [cond_true] at hq ⊢
                have hj' : j = id := by simpa using hj
                subst hj'
                cases hx with
                | os _ _ hcap =>
                  refine .d _ _ ?_
                  rcases h5 with ⟨h6, h7, h8⟩ | ⟨b', cur, fz, h1, h2, h3, _, h4, h5, h6⟩
                  · subst h7
                    obtain rfl : n = 0 := by simpa using hq
                    exact .sl 0 _ _ _ 0 0 0 (fun _ _ => undef) (by omega) hcm (fun h => by omega) (fun i hi => by omega) (fun i k hi => by omega) (fun i k d hi => by omega)
                  · let g : Nat → Nat → Value := fun i k => cur.getD (i * sz + k) undef
                    have hcur : ∀ i k, i < n → k < sz → cur[i * sz + k]? = some (g i k) := fun i k hi hk => by
                      have : i * sz + k < cur.size := by
                        rw [h5]
                        have : (i + 1) * sz ≤ (h j).cap * sz := Nat.mul_le_mul_right _ (by omega)
                        rw [Nat.add_mul] at this
                        omega
                      simp [g, Array.getElem?_eq_getElem this]
                    have hes : ∀ i, i < n → es[i]? = some (es.getD i gr.2) := fun i hi => by simp [List.getD, List.getElem?_eq_getElem (show i < es.length by omega)]
                    refine .sl n _ _ _ sz b' 0 g hcap hcm (fun _ => ⟨by simp [Hd.addr, h1], .inr h1⟩) (fun i hi => (h6 i _ (hes i hi)).1) (fun i k hi hk => ?_) (fun i k d hi hk => ?_)
                    · have := hcur i k hi hk
                      simpa [World.cell?, h2] using this
                    · obtain ⟨v, h7, h8⟩ := (h6 i _ (hes i hi)).2 k d hk
                      have hkl : k < sz := by rw [← (h6 i _ (hes i hi)).1]; exact (List.getElem?_eq_some_iff.1 hk).1
                      rw [hcur i k hi hkl] at h7
                      cases h7
                      exact h8.mono (fun _ _ => rfl) fun _ hb => .inl hb
            | el j i off =>
              simp only
              cases hj : (j == id) with
              | false => exact hx2
              | true => exact .any v
            | _ => exact hx2
          | box t cells =>
            obtain ⟨ds, hds, he⟩ := Option.map_eq_some_iff.1 hlf
            obtain ⟨rfl, rfl⟩ := Prod.mk.inj he
            have e := allD_spec hds
            subst e
            cases x with
            | bp j off =>
              simp only
              cases hj : (j == id) with
              | false => exact hx2
              | true =>
                simp only [cond_true]
                have hj' : j = id := by simpa using hj
                subst hj'
                cases hx with
                | bp _ _ b hb =>
                  obtain ⟨b', cs, h1, h2, h3, h4⟩ := r.mem.obj j _ hl
                  obtain rfl : b' = b := by rw [h1] at hb; exact Option.some.inj hb
                  have key : RdD w ok2 (.ip ds off) (.pointer (some ⟨b', 0 + off, none⟩)) := by
                    refine .ip ds off b' 0 (fun k => cs.getD k undef) (.inr h1) (fun k hk => ?_) (fun k d hk => ?_)
                    · have : k < cs.size := by rw [h3]; simpa using hk
                      simp [World.cell?, h2, Array.getElem?_eq_getElem this]
                    · obtain ⟨v, h5, h6⟩ := h4 k (.d d) (by simp [hk])
                      have hv : cs.getD k undef = v := by simp [Array.getD_eq_getD_getElem?, h5]
                      rw [hv]
                      cases h6 with | d _ _ h => exact h.mono (fun _ _ => rfl) fun _ hb => .inl hb
                  rw [Nat.zero_add] at key
                  exact .d _ _ key
            | _ => exact hx2
        have hlook : ∀ j o', look j (subObjs f (strike id st.objs)) = some o' → j ≠ id ∧ ∃ o1, look j st.objs = some o1 ∧ okO q o1 ∧ o' = subO f o1 := by
          intro j o' hj
          unfold subObjs at hj
          rw [look_map, look_strike] at hj
          split at hj
          · cases hj
          · rename_i hne
            obtain ⟨o1, h1, h2⟩ := Option.map_eq_some_iff.1 hj
            refine ⟨fun e => hne e.symm, o1, h1, okObjs_look hpo (i := j) ?_, h2.symm⟩
            rw [look_strike, if_neg hne]
            exact h1
        have hm := r.mem
        refine ⟨ok2, h, ⟨hm.os, hm.tape, hm.output, hm.size, hm.block, fun k hk => ?_, fun j o' hj => ?_, fun j o' b hj hb => ?_, fun j j' o1 o2 b hj hj' hne hb => ?_⟩, r.defers, r.nt, r.pin, fun i x hx => ?_⟩
        · rcases hk with hk | hk
          · exact hm.okb k hk
          · obtain ⟨h1, h2, h3⟩ := hm.blk id o k hl hk
            have hge : C.w0.heap.size ≤ k := by
              rcases h3 with h3 | ⟨o0, h4, _⟩
              · exact h3
              · have := hc.ids id o0 h4
                omega
            exact ⟨h1, fun hlent => by have := hc.lt k hlent; omega, .inr hge⟩
        · obtain ⟨_, o1, h1, h2, rfl⟩ := hlook j o' hj
          exact (hm.obj j o1 h1).sub hf (fun _ hb => .inl hb) h2
        · obtain ⟨hne, o1, h1, _, rfl⟩ := hlook j o' hj
          obtain ⟨h4, h5, h6⟩ := hm.blk j o1 b h1 hb
          exact ⟨h4, fun hk => hk.elim h5 fun hk => hm.apart j id o1 o b h1 hl hne hb hk, h6⟩
        · obtain ⟨_, o3, h1, _, rfl⟩ := hlook j o1 hj
          obtain ⟨_, o4, h2, _, rfl⟩ := hlook j' o2 hj'
          exact hm.apart j j' o3 o4 b h1 h2 hne hb
        · simp only [subSlots] at hx
          rw [look_map] at hx
          obtain ⟨y, h1, rfl⟩ := Option.map_eq_some_iff.1 hx
          obtain ⟨h2, v, h3, h4⟩ := r.slot i y h1
          exact ⟨h2, v, h3, h4.sub hf (fun _ hb => .inl hb) (okSlots_look hps h1)⟩
      · cases he
    · cases he
  · cases he

/-- A slice against nil: which it is, is not said by its elements. -/
theorem opsW_isNil {ops : Array Oper} {rest : List Oper} {K : St → Prop} {t ty : TypeId} {y : Operand} {n : Nat} {g : Nat → List D} {r0 : TypeId × Nat} (hw : gE ops o st = some true) (ho : o.op = .binOp .eql t y (.const (.slice none 0 0)) ty) (ht : eElem C.P t = some r0)
    (hy : ev true st y = some (.d (.sl n g))) (hd : dstB C.nt o.dst = true) (hk : ∀ b : Bool, (b = true → n = 0) → opsW C ops rest (st.put o.dst (.d (.lit (.bool b)))) K) : opsW C ops (o :: rest) st K := by
  intro a w ⟨ok, h, r⟩ Q hQ
  refine wpList_step fun K' hK => ?_
  rw [wanted_of r hw, if_pos rfl]
  have e1 := ev_sound rfl r hy
  generalize hv : a.eval y = v at e1
  cases e1 with
  | d _ _ hx => cases hx with
    | sl _ _ A cap size b off g hc hm hA hl hg hd' =>
      unfold Oper.wp
      have hrun : (execOp a.eval o).run C.P w = .ok (.value (.bool A.isNone)) w := by
        have he := run_equal_slice_nil (P := C.P) w t r0.1 A n cap (eElem_spec ht).1
        have hk2 : a.eval (.const (.slice none 0 0)) = .slice none 0 0 := rfl
        simp [execOp, ho, hv, hk2, eqGuard, binOp, he]
      rw [hrun]
      refine hK _ _ (hk A.isNone (fun hA' => ?_) _ _ ⟨ok, h, r.put (dstB_spec hd) (.d _ _ (.lit _))⟩ Q hQ)
      rcases Nat.eq_zero_or_pos n with h0 | h0
      · exact h0
      · rw [(hA h0).1] at hA'; cases hA'
end
end Go.Lw
