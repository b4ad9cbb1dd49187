/-
  OPERATIONS THAT MAKE OR WRITE MEMORY, on list-level states.
-/
import Derived.Test.YtglonkenckigiaaGreatDoorLwRo
set_option linter.unusedSimpArgs false
set_option linter.unusedVariables false
namespace Go.Lw
open Go.RowKit

def St.put (st : St) (d : Option Tmp) (x : V) : St := match d with | some d => { st with slots := place d x st.slots } | none => st
def upd (h : Nat → Hd) (id : Nat) (x : Hd) : Nat → Hd := fun j => if j = id then x else h j
theorem upd_same (h : Nat → Hd) (id : Nat) (x : Hd) : upd h id x id = x := by simp [upd]
theorem upd_ne (h : Nat → Hd) (id : Nat) (x : Hd) : ∀ j, j ≠ id → upd h id x j = h j := fun j hj => by simp [upd, hj]

section
variable {C : Ctx} {st : St} {ok : Nat → Prop} {h : Nat → Hd} {a : Act} {w w' : World} {o : Oper} {x : V} {p : Prop}

theorem Rep.put (r : Rep C st ok h a w) {d : Option Tmp} (hd : ∀ t, d = some t → t < C.nt) {v : Value} (hx : RdV w ok h x v) : Rep C (st.put d x) ok h (a.put d v) w := by
  cases d with
  | none => exact r
  | some t =>
    have ht := hd t rfl
    refine ⟨r.mem, r.defers, by simp [Act.put, r.nt], r.pin, fun i y hy => ?_⟩
    simp only [St.put, look_place] at hy
    split at hy
    · rename_i e
      subst e
      cases hy
      refine ⟨ht, v, ?_, hx⟩
      simp [Act.put, Array.getElem?_setIfInBounds, r.nt, ht]
    · rename_i e
      obtain ⟨h1, u, h2, h3⟩ := r.slot i y hy
      refine ⟨h1, u, ?_, h3⟩
      simp only [Act.put]
      rw [Array.getElem?_setIfInBounds]
      simp [e, h2]

theorem Mem.step {objs : List (Nat × O)} (m : Mem C ok h objs w) (id : Nat) (hd : Hd) (o' : O) (row : Option Nat) (g : w.grownBy w' row)
    (hrow : ∀ b, row = some b → ∃ o, look id objs = some o ∧ (h id).blk = some b)
    (hblk : ∀ b, hd.blk = some b → row = some b ∨ (w.heap.size ≤ b ∧ b < w'.heap.size))
    (hso : ∀ j o, j ≠ id → look j objs = some o → o.says id = false)
    (ho' : RdO w' ok (upd h id hd) id o') (hlt : ∀ b, C.lent b → b < C.w0.heap.size) : Mem C ok (upd h id hd) (place id o' objs) w' := by
  have hrb : ∀ b, row = some b → b < w.heap.size ∧ ¬ ok b ∧ (C.w0.heap.size ≤ b ∨ C.lentAt id b) := fun b hb => by
    obtain ⟨o, h1, h2⟩ := hrow b hb
    exact m.blk id o b h1 h2
  have hokb : ∀ b, ok b → w'.heap[b]? = w.heap[b]? := fun b hb => g.block b (m.okb b hb).1 (fun e => (hrb b e.symm).2.1 hb)
  have hsz := g.size
  have hms := m.size
  refine ⟨g.os.trans m.os, g.tape.trans m.tape, g.output.trans m.output, Nat.le_trans m.size g.size, fun k hk hl => ?_, fun k hk => ?_, fun j o hj => ?_, fun j o b hj hb => ?_, fun j j' o o1 b hj hj' hne hb => ?_⟩
  · rw [g.block k (by omega) (fun e => ?_)]
    · exact m.block k hk hl
    · rcases (hrb k e.symm).2.2 with h1 | h1
      · omega
      · exact hl ⟨_, h1⟩
  · have := m.okb k hk
    exact ⟨by omega, this.2⟩
  · rw [look_place] at hj
    split at hj
    · rename_i e
      subst e; cases hj; exact ho'
    · rename_i e
      refine RdO.swap (upd_ne h id hd) (fun e' => e e'.symm) ((m.obj j o hj).mono hokb (fun _ hb => hb) fun b hb => ?_) (hso j o (fun e' => e e'.symm) hj)
      refine g.block b (m.blk j o b hj hb).1 (fun e' => ?_)
      obtain ⟨o2, h1, h2⟩ := hrow b e'.symm
      exact m.apart id j o2 o b h1 hj e h2 hb
  · rw [look_place] at hj
    split at hj
    · rename_i e
      subst e
      rw [upd_same] at hb
      rcases hblk b hb with h1 | h1
      · have := hrb b h1
        exact ⟨by omega, this.2⟩
      · exact ⟨h1.2, fun hx => by have := (m.okb b hx).1; omega, .inl (by omega)⟩
    · rename_i e
      rw [upd_ne h id hd j (fun e' => e e'.symm)] at hb
      have := m.blk j o b hj hb
      exact ⟨by omega, this.2⟩
  · rw [look_place] at hj hj'
    have key : ∀ j o b, look j objs = some o → id ≠ j → (h j).blk = some b → hd.blk ≠ some b := by
      intro j o b hj hne hb hx
      rcases hblk b hx with h1 | h1
      · obtain ⟨o2, h3, h4⟩ := hrow b h1
        exact m.apart id j o2 o b h3 hj hne h4 hb
      · have := (m.blk j o b hj hb).1
        omega
    split at hj
    · rename_i e
      subst e
      rw [upd_same] at hb
      rw [if_neg hne] at hj'
      rw [upd_ne h id hd j' (fun e' => hne e'.symm)]
      intro hb'
      exact key j' o1 b hj' hne hb' hb
    · rename_i e
      rw [upd_ne h id hd j (fun e' => e e'.symm)] at hb
      split at hj'
      · rename_i e'
        subst e'
        rw [upd_same]
        exact key j o b hj e hb
      · rename_i e'
        rw [upd_ne h id hd j' (fun e1 => e' e1.symm)]
        exact m.apart j j' o o1 b hj hj' hne hb

/-- The object is written where it lies. -/
theorem Mem.write {objs : List (Nat × O)} (m : Mem C ok h objs w) {id : Nat} {o o' : O} {b : Nat} (hl : look id objs = some o) (hb : (h id).blk = some b) (g : w.grownBy w' (some b))
    (hs : w'.heap.size = w.heap.size) (ho' : RdO w' ok h id o') : Mem C ok h (place id o' objs) w' := by
  obtain ⟨hb1, hb2, hb3⟩ := m.blk id o b hl hb
  have hokb : ∀ k, ok k → w'.heap[k]? = w.heap[k]? := fun k hk => g.block k (m.okb k hk).1 (fun e => by cases e; exact hb2 hk)
  have hms := m.size
  have keep : ∀ j o1, look j (place id o' objs) = some o1 → ∃ o2, look j objs = some o2 := fun j o1 hj => by
    rw [look_place] at hj
    split at hj
    · rename_i e; subst e; exact ⟨o, hl⟩
    · exact ⟨o1, hj⟩
  refine ⟨g.os.trans m.os, g.tape.trans m.tape, g.output.trans m.output, Nat.le_trans m.size g.size, fun k hk hl' => ?_, fun k hk => ?_, fun j o1 hj => ?_, fun j o1 b1 hj hb1' => ?_, fun j j' o1 o2 b1 hj hj' hne hb1' => ?_⟩
  · rw [g.block k (by omega) (fun e => ?_)]
    · exact m.block k hk hl'
    · cases e
      rcases hb3 with h1 | h1
      · omega
      · exact hl' ⟨_, h1⟩
  · have := m.okb k hk
    exact ⟨by omega, this.2⟩
  · rw [look_place] at hj
    split at hj
    · rename_i e
      subst e; cases hj; exact ho'
    · rename_i e
      refine (m.obj j o1 hj).mono hokb (fun _ hb => hb) fun b1 hb1' => g.block b1 (m.blk j o1 b1 hj hb1').1 (fun e' => ?_)
      cases e'
      exact m.apart id j o o1 b hl hj e hb hb1'
  · obtain ⟨o2, h2⟩ := keep j o1 hj
    have := m.blk j o2 b1 h2 hb1'
    exact ⟨by omega, this.2⟩
  · obtain ⟨o3, h3⟩ := keep j o1 hj
    obtain ⟨o4, h4⟩ := keep j' o2 hj'
    exact m.apart j j' o3 o4 b1 h3 h4 hne hb1'

theorem grown_setRow (w : World) (g : Nat) (cs : Array Value) : w.grownBy (w.setRow g cs) (some g) :=
  ⟨rfl, rfl, rfl, by simp [World.setRow], fun k _ hk => setRow_other w g k cs (fun e => hk (by rw [e]))⟩
theorem size_setRow (w : World) (g : Nat) (cs : Array Value) : (w.setRow g cs).heap.size = w.heap.size := by simp [World.setRow]

structure CtxOk (C : Ctx) : Prop where
  lt : ∀ b, C.lent b → b < C.w0.heap.size
  nt : C.nt ≤ 50000
  ids : ∀ id o, look id C.objs0 = some o → 50000 ≤ id
  std : Std C.P C.w0
  low : ∀ b, C.lent b → C.P.globals.size ≤ b
theorem Mem.std {objs : List (Nat × O)} (hc : CtxOk C) (m : Mem C ok h objs w) : Std C.P w :=
  hc.std.keep m.size fun k hk => m.block k (Nat.lt_of_lt_of_le hk hc.std.1) fun hl => by have := hc.low k hl; omega

/-- No slot and no other object speaks of an object. -/
def freshB (id : Nat) (st : St) : Bool := st.slots.all (fun p => !says id p.2) && st.objs.all (fun p => p.1 == id || !p.2.says id)

theorem look_mem {α : Type} {i : Nat} {x : α} : ∀ {l : List (Nat × α)}, look i l = some x → (i, x) ∈ l
  | [], hl => by cases hl
  | (j, y) :: r, hl => by
    simp only [look] at hl
    split at hl
    · rename_i e
      subst e; cases hl; exact List.mem_cons_self
    · exact List.mem_cons_of_mem _ (look_mem hl)

theorem fresh_slot {id : Nat} (hf : freshB id st = true) {i : Nat} {x : V} (hl : look i st.slots = some x) : says id x = false := by
  simp only [freshB, Bool.and_eq_true, List.all_eq_true] at hf
  simpa using hf.1 _ (look_mem hl)
theorem fresh_obj {id : Nat} (hf : freshB id st = true) {j : Nat} {o : O} (hj : j ≠ id) (hl : look j st.objs = some o) : o.says id = false := by
  simp only [freshB, Bool.and_eq_true, List.all_eq_true] at hf
  have := hf.2 _ (look_mem hl)
  simpa [hj] using this

/-- A new object. -/
theorem Rep.new (r : Rep C st ok h a w) (hlt : ∀ b, C.lent b → b < C.w0.heap.size) {id : Nat} (hid : id < 100000) (hf : freshB id st = true) (hd : Hd) (o' : O) (ob : Obj) (hblk : hd.blk = some w.heap.size) (ho' : RdO (w.alloc ob) ok (upd h id hd) id o') :
    Rep C { st with objs := place id o' st.objs } ok (upd h id hd) a (w.alloc ob) := by
  refine ⟨r.mem.step id hd o' none (World.grownBy_alloc w ob none) (fun b hb => by cases hb) (fun b hb => ?_) (fun j o hj hl => fresh_obj hf hj hl) ho' hlt, r.defers, r.nt, fun j hj => (upd_ne h id hd j (by omega)).trans (r.pin j hj), fun i x hx => ?_⟩
  · rw [hblk] at hb; cases hb
    exact .inr ⟨Nat.le_refl _, by simp⟩
  · obtain ⟨h1, v, h2, h3⟩ := r.slot i x hx
    exact ⟨h1, v, h2, (h3.mono (fun b hb => Below.heap_alloc w ob b (r.mem.okb b hb).1) fun _ hb => hb).swap (upd_ne h id hd) (fresh_slot hf hx)⟩

/-- What a function of the list level does to a state, and what has to hold. -/
def Does (C : Ctx) (o : Oper) (st st' : St) (p : Prop) : Prop :=
  ∀ ok h a w, Rep C st ok h a w → p → ∃ v w' ok' h', (execOp a.eval o).run C.P w = .ok v w' ∧ ∃ u, (v = .value u ∨ (v = .skip ∧ u = undef)) ∧ Rep C st' ok' h' (a.put o.dst u) w'

theorem does_ro {nt : Nat} (hnt : nt = C.nt) (he : ro C.P (fun g => ev g st) true st.objs o.op = some (x, p)) (hd : ∀ t, o.dst = some t → t < nt) : Does C o st (st.put o.dst x) p := by
  intro ok h a w r hp
  obtain ⟨v, h1, h2⟩ := ro_sound r (fun g hg x y => ev_sound hg r) he hp
  exact ⟨_, w, ok, h, h2 w (fun _ _ => rfl), v, .inl rfl, r.put (fun t ht => hnt ▸ hd t ht) h1⟩

theorem newBox (r : Rep C st ok h a w) (hlt : ∀ b, C.lent b → b < C.w0.heap.size) {id : Nat} (hid : id < 100000) (hf : freshB id st = true) (t : TypeId) {v : Value} {cells : List V} (hn : v.cells.size = cells.length)
    (hc : ∀ (k : Nat) (y : V), cells[k]? = some y → says id y = false ∧ ∃ u, v.cells[k]? = some u ∧ RdV w ok h y u) :
    Rep C { st with objs := place id (.box t cells) st.objs } ok (upd h id ⟨some w.heap.size, 0, 0⟩) a (w.alloc (.cells v.cells t)) := by
  refine r.new hlt hid hf _ _ _ rfl ⟨w.heap.size, v.cells, by rw [upd_same], heap_alloc_new w _, hn, fun k y hk => ?_⟩
  obtain ⟨h1, u, h2, h3⟩ := hc k y hk
  exact ⟨u, h2, (h3.mono (fun b hb => Below.heap_alloc w _ b (r.mem.okb b hb).1) fun _ hb => hb).swap (upd_ne h id _) h1⟩

theorem does_alloc {nt : Nat} (hnt : nt = C.nt) (hc : CtxOk C) {t : TypeId} {zs : List Value} {d : Tmp} (ho : o.op = .alloc t) (hdst : o.dst = some d) (hz : eZero C.P t = some zs) (hf : freshB d st = true) (hd : d < nt) :
    Does C o st { slots := place d (.bp d 0) st.slots, objs := place d (.box t (zs.map fun z => .d (.lit z))) st.objs } True := by
  intro ok h a w r _
  obtain ⟨z, h1, h2⟩ := eZero_spec hz w
  have rb := newBox r hc.lt (Nat.lt_of_lt_of_le hd (by rw [hnt]; have := hc.nt; omega)) hf t (v := z) (cells := zs.map fun z => .d (.lit z)) (by rw [← h2]; simp) (fun k y hk => by
    rw [List.getElem?_map] at hk
    obtain ⟨u, h3, h4⟩ := Option.map_eq_some_iff.1 hk
    subst h4
    exact ⟨rfl, u, by rw [← h2, Array.getElem?_toList] at h3; exact h3, .d _ _ (.lit u)⟩)
  refine ⟨.value (.pointer (some ⟨w.heap.size, 0, none⟩)), w.alloc (.cells z.cells t), ok, upd h d ⟨some w.heap.size, 0, 0⟩, ?_, .pointer (some ⟨w.heap.size, 0, none⟩), .inl rfl, ?_⟩
  · simp [execOp, ho, Instr.alloc, h1, newVar, newRow]
  · rw [hdst]
    exact rb.put (d := some d) (fun u hu => by rw [← Option.some.inj hu, ← hnt]; exact hd) (.bp d 0 w.heap.size (by rw [upd_same]))

theorem does_box {nt : Nat} (hnt : nt = C.nt) (hc : CtxOk C) {t : TypeId} {y : Operand} {d : Tmp} (ho : o.op = .box t y) (hdst : o.dst = some d) (he : ev true st y = some x) (h1 : (cellsV x).all oneV = true)
    (hs : saysL d (cellsV x) = false) (hf : freshB d st = true) (hd : d < nt) :
    Does C o st { slots := place d (.bp d 0) st.slots, objs := place d (.box t (cellsV x)) st.objs } True := by
  intro ok h a w r _
  obtain ⟨h2, h3⟩ := cellsV_sound h1 (ev_sound rfl r he)
  have rb := newBox r hc.lt (Nat.lt_of_lt_of_le hd (by rw [hnt]; have := hc.nt; omega)) hf t (v := a.eval y) (cells := cellsV x) h2 (fun k z hk => ⟨saysL_mem hs z (List.mem_of_getElem? hk), let ⟨u, h4, h5, _⟩ := h3 k z hk; ⟨u, h4, h5⟩⟩)
  refine ⟨.value (.pointer (some ⟨w.heap.size, 0, none⟩)), w.alloc (.cells (a.eval y).cells t), ok, upd h d ⟨some w.heap.size, 0, 0⟩, ?_, .pointer (some ⟨w.heap.size, 0, none⟩), .inl rfl, ?_⟩
  rotate_left
  · rw [hdst]
    exact rb.put (d := some d) (fun u hu => by rw [← Option.some.inj hu, ← hnt]; exact hd) (.bp d 0 w.heap.size (by rw [upd_same]))
  · simp [execOp, ho, Instr.box, newVar, newRow]

/-- A row of cells within a block is written. -/
theorem run_storeCells_row {P : Program} (b : Nat) (t : TypeId) (fz : Nat × Nat) : ∀ (vs : List Value) (o : Nat) (cur : Array Value) (w : World), w.heap[b]? = some (.cells cur t fz) → o + vs.length ≤ cur.size → thaw fz cur.size → (∀ v ∈ vs, v.oneCell' = true) →
    ∀ (base i : Nat), base + i = o → ∃ w', (storeCells ⟨b, base, none⟩ vs i).run P w = .ok () w' ∧ w.grownBy w' (some b) ∧ w'.heap.size = w.heap.size ∧
      ∃ cur', w'.heap[b]? = some (.cells cur' t fz) ∧ cur'.size = cur.size ∧ ∀ k, cur'[k]? = if o ≤ k ∧ k < o + vs.length then vs[k - o]? else cur[k]?
  | [], o, cur, w, hg, _, _, _, base, i, _ => ⟨w, rfl, ⟨rfl, rfl, rfl, Nat.le_refl _, fun _ _ _ => rfl⟩, rfl, cur, hg, rfl, fun k => by simp; omega⟩
  | v :: vs, o, cur, w, hg, hl, ht, h1, base, i, hbi => by
    simp only [List.length_cons] at hl
    have hcell : w.cell? ⟨b, o, none⟩ = some cur[o] := by simp [World.cell?, hg]
    have hfr : w.frozen? ⟨b, o, none⟩ = false := by
      have := ht o (by omega)
      simp only [World.frozen?, hg]
      simp only [not_and, Nat.not_lt] at this
      by_cases hx : fz.1 ≤ o
      · simp [this hx]
      · simp [hx]
    have hst : (store (⟨b, o, none⟩ : Addr) v).run P w = .ok () (w.setCell ⟨b, o, none⟩ v) := by
      rw [run_store P w _ v _ (h1 v List.mem_cons_self), hcell, hfr]
      simp
    have hg' : (w.setCell ⟨b, o, none⟩ v).heap[b]? = some (.cells (cur.setIfInBounds o v) t fz) := by
      simp [World.setCell, Array.getElem?_modify, hg]
    obtain ⟨w', hr, g, hs, cur', h2, h3, h4⟩ := run_storeCells_row (P := P) b t fz vs (o + 1) (cur.setIfInBounds o v) (w.setCell ⟨b, o, none⟩ v) hg' (by simp; omega) (by simpa using ht) (fun u hu => h1 u (List.mem_cons_of_mem _ hu)) base (i + 1) (by omega)
    refine ⟨w', ?_, ⟨g.os, g.tape, g.output, by have := g.size; simpa using this, fun k hk hne => ?_⟩, by simpa using hs, cur', h2, by simpa using h3, fun k => ?_⟩
    · simp only [storeCells, addr_add, hbi]
      simp [hst, hr]
    · rw [g.block k (by simpa using hk) hne]
      exact Below.heap_setCell _ _ _ _ (fun e => hne (by rw [e]))
    · rw [h4 k]
      simp only [List.length_cons]
      by_cases hk : k = o
      · subst hk
        rw [if_neg (by omega), if_pos (by omega), Array.getElem?_setIfInBounds]
        simp
        omega
      · by_cases hk2 : o + 1 ≤ k ∧ k < o + 1 + vs.length
        · rw [if_pos hk2, if_pos (by omega)]
          obtain ⟨j, rfl⟩ : ∃ j, k = o + 1 + j := ⟨k - (o + 1), by omega⟩
          have e1 : o + 1 + j - (o + 1) = j := by omega
          have e2 : o + 1 + j - o = j + 1 := by omega
          rw [e1, e2]
          simp
        · rw [if_neg hk2, if_neg (by omega)]
          rw [Array.getElem?_setIfInBounds, if_neg (fun e => hk e.symm)]

theorem run_storeAt {P : Program} {t : TypeId} {n : Nat} (hn : eSz P t = some n) {v : Value} (hv : v.cells.size = n) (b off : Nat) (w : World) :
    (Instr.storeAt t (.pointer (some ⟨b, off, none⟩)) v).run P w = (storeCells ⟨b, off, none⟩ v.cells.toList).run P w := by
  simp [Instr.storeAt, Instr.sureAddr, storeVar, run_sizeOf hn, hv]

theorem does_store {t : TypeId} {n id off : Nat} {ty : TypeId} {cells : List V} {y z : Operand} (ho : o.op = .store t y z) (hdst : o.dst = none) (hn : eSz C.P t = some n)
    (hy : ev true st y = some (.bp id off)) (hl : look id st.objs = some (.box ty cells)) (hz : ev true st z = some x) (h1 : (cellsV x).all oneV = true) (hlen : (cellsV x).length = n) (hfit : off + n ≤ cells.length) :
    Does C o st { st with objs := place id (.box ty (cells.take off ++ cellsV x ++ cells.drop (off + n))) st.objs } True := by
  intro ok h a w r _
  obtain ⟨h2, h3⟩ := cellsV_sound h1 (ev_sound rfl r hz)
  have e1 := ev_sound rfl r hy
  generalize hv : a.eval y = v at e1
  cases e1 with
  | bp _ _ b hb =>
    obtain ⟨b', cs, h4, h5, h6, h7⟩ := r.mem.obj id _ hl
    obtain rfl : b' = b := by rw [h4] at hb; exact Option.some.inj hb
    obtain ⟨w', hr, g, hs, cur', h8, h9, h10⟩ := run_storeCells_row (P := C.P) b' ty (0, 0) (a.eval z).cells.toList off cs w h5 (by simp; omega) (fun o ho => by simp) (fun u hu => by
      obtain ⟨k, hk⟩ := List.mem_iff_getElem?.1 hu
      have hk' : (a.eval z).cells[k]? = some u := by simpa using hk
      have hkl : k < (cellsV x).length := by rw [← h2]; exact (Array.getElem?_eq_some_iff.1 hk').1
      obtain ⟨u', h11, _, h12⟩ := h3 k _ (List.getElem?_eq_getElem hkl)
      rw [hk'] at h11; cases h11; exact h12) off 0 rfl
    have hokb : ∀ k, ok k → w'.heap[k]? = w.heap[k]? := fun k hk => g.block k (r.mem.okb k hk).1 (fun e => by cases e; exact (r.mem.blk id _ b' hl h4).2.1 hk)
    refine ⟨.skip, w', ok, h, ?_, undef, .inr ⟨rfl, rfl⟩, ?_⟩
    · simp [execOp, ho, hv, run_storeAt hn (by omega : (a.eval z).cells.size = n), hr]
    · rw [hdst]
      refine ⟨r.mem.write hl h4 g hs ⟨b', cur', h4, h8, ?_, fun k u hk => ?_⟩, r.defers, r.nt, r.pin, fun i u hu => ?_⟩
      · simp only [List.length_append, List.length_take, List.length_drop]
        omega
      · rw [h10 k]
        simp only [List.length_append, Array.length_toList] at hk ⊢
        by_cases hk1 : k < off
        · rw [if_neg (by omega)]
          rw [List.append_assoc, List.getElem?_append_left (by simp; omega), List.getElem?_take, if_pos hk1] at hk
          obtain ⟨v, h11, h12⟩ := h7 k u hk
          exact ⟨v, h11, h12.mono hokb fun _ hb => hb⟩
        · by_cases hk2 : k < off + n
          · rw [if_pos (by omega)]
            rw [List.append_assoc, List.getElem?_append_right (by simp; omega), List.getElem?_append_left (by simp; omega)] at hk
            simp only [List.length_take] at hk
            rw [Nat.min_eq_left (by omega)] at hk
            obtain ⟨v, h11, h12, _⟩ := h3 _ u hk
            exact ⟨v, by simpa using h11, h12.mono hokb fun _ hb => hb⟩
          · rw [if_neg (by omega)]
            rw [List.append_assoc, List.getElem?_append_right (by simp; omega), List.getElem?_append_right (by simp; omega), List.getElem?_drop] at hk
            simp only [List.length_take] at hk
            rw [Nat.min_eq_left (by omega), hlen, show off + n + (k - off - n) = k by omega] at hk
            obtain ⟨v, h11, h12⟩ := h7 k u hk
            exact ⟨v, h11, h12.mono hokb fun _ hb => hb⟩
      · obtain ⟨h11, v, h12, h13⟩ := r.slot i u hu
        exact ⟨h11, v, h12, h13.mono hokb fun _ hb => hb⟩
end
end Go.Lw
