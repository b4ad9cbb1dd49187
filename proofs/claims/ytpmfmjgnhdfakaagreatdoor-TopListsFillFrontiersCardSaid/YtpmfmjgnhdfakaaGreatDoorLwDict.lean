/-
  OPERATIONS THAT MAKE OR WRITE MEMORY, on list-level states.
-/
import Derived.Test.YtpmfmjgnhdfakaaGreatDoorLwRo
import Derived.Maps.AppendAt
import Derived.Deep.Upon
import Derived.Lib.ConvBytes
import Derived.Lib.SlBytesConst
import Derived.Laws.RangeAny
import Derived.Lib.AppendZeros
set_option linter.unusedSimpArgs false
set_option linter.unusedVariables false
namespace Go.Lw
open Go.RowKit

def St.put (st : St) (d : Option Tmp) (x : V) : St := match d with | some d => { st with slots := place d x st.slots } | none => st
def upd (h : Nat → Hd) (id : Nat) (x : Hd) : Nat → Hd := fun j => if j = id then x else h j
theorem upd_same (h : Nat → Hd) (id : Nat) (x : Hd) : upd h id x id = x := by simp [upd]
theorem upd_ne (h : Nat → Hd) (id : Nat) (x : Hd) : ∀ j, j ≠ id → upd h id x j = h j := fun j hj => by simp [upd, hj]

section
variable {C : Ctx} {st : St} {ok : Nat → Prop} {h : Nat → Hd} {a : Act} {w w' : World} {o : Oper} {x : V} {p : Prop}

theorem Rep.put (r : Rep C st ok h a w) {d : Option Tmp} (hd : ∀ t, d = some t → t < C.nt) {v : Value} (hx : RdV w ok h x v) : Rep C (st.put d x) ok h (a.put d v) w := by
  cases d with
  | none => exact r
  | some t =>
    have ht := hd t rfl
    refine ⟨r.mem, r.defers, by simp [Act.put, r.nt], r.pin, fun i y hy => ?_⟩
    simp only [St.put, look_place] at hy
    split at hy
    · rename_i e
      subst e
      cases hy
      refine ⟨ht, v, ?_, hx⟩
      simp [Act.put, Array.getElem?_setIfInBounds, r.nt, ht]
    · rename_i e
      obtain ⟨h1, u, h2, h3⟩ := r.slot i y hy
      refine ⟨h1, u, ?_, h3⟩
      simp only [Act.put]
      rw [Array.getElem?_setIfInBounds]
      simp [e, h2]

theorem Mem.step {objs : List (Nat × O)} (m : Mem C ok h objs w) (id : Nat) (hd : Hd) (o' : O) (row : Option Nat) (g : w.grownBy w' row)
    (hrow : ∀ b, row = some b → ∃ o, look id objs = some o ∧ (h id).blk = some b)
    (hblk : ∀ b, hd.blk = some b → row = some b ∨ (w.heap.size ≤ b ∧ b < w'.heap.size))
    (hso : ∀ j o, j ≠ id → look j objs = some o → o.says id = false)
    (ho' : RdO w' ok (upd h id hd) id o') (hlt : ∀ b, C.lent b → b < C.w0.heap.size) : Mem C ok (upd h id hd) (place id o' objs) w' := by
  have hrb : ∀ b, row = some b → b < w.heap.size ∧ ¬ ok b ∧ (C.w0.heap.size ≤ b ∨ C.lentAt id b) := fun b hb => by
    obtain ⟨o, h1, h2⟩ := hrow b hb
    exact m.blk id o b h1 h2
  have hokb : ∀ b, ok b → w'.heap[b]? = w.heap[b]? := fun b hb => g.block b (m.okb b hb).1 (fun e => (hrb b e.symm).2.1 hb)
  have hsz := g.size
  have hms := m.size
  refine ⟨g.os.trans m.os, g.tape.trans m.tape, g.output.trans m.output, Nat.le_trans m.size g.size, fun k hk hl => ?_, fun k hk => ?_, fun j o hj => ?_, fun j o b hj hb => ?_, fun j j' o o1 b hj hj' hne hb => ?_⟩
  · rw [g.block k (by omega) (fun e => ?_)]
    · exact m.block k hk hl
    · rcases (hrb k e.symm).2.2 with h1 | h1
      · omega
      · exact hl ⟨_, h1⟩
  · have := m.okb k hk
    exact ⟨by omega, this.2⟩
  · rw [look_place] at hj
    split at hj
    · rename_i e
      subst e; cases hj; exact ho'
    · rename_i e
      refine RdO.swap (upd_ne h id hd) (fun e' => e e'.symm) ((m.obj j o hj).mono hokb (fun _ hb => hb) fun b hb => ?_) (hso j o (fun e' => e e'.symm) hj)
      refine g.block b (m.blk j o b hj hb).1 (fun e' => ?_)
      obtain ⟨o2, h1, h2⟩ := hrow b e'.symm
      exact m.apart id j o2 o b h1 hj e h2 hb
  · rw [look_place] at hj
    split at hj
    · rename_i e
      subst e
      rw [upd_same] at hb
      rcases hblk b hb with h1 | h1
      · have := hrb b h1
        exact ⟨by omega, this.2⟩
      · exact ⟨h1.2, fun hx => by have := (m.okb b hx).1; omega, .inl (by omega)⟩
    · rename_i e
      rw [upd_ne h id hd j (fun e' => e e'.symm)] at hb
      have := m.blk j o b hj hb
      exact ⟨by omega, this.2⟩
  · rw [look_place] at hj hj'
    have key : ∀ j o b, look j objs = some o → id ≠ j → (h j).blk = some b → hd.blk ≠ some b := by
      intro j o b hj hne hb hx
      rcases hblk b hx with h1 | h1
      · obtain ⟨o2, h3, h4⟩ := hrow b h1
        exact m.apart id j o2 o b h3 hj hne h4 hb
      · have := (m.blk j o b hj hb).1
        omega
    split at hj
    · rename_i e
      subst e
      rw [upd_same] at hb
      rw [if_neg hne] at hj'
      rw [upd_ne h id hd j' (fun e' => hne e'.symm)]
      intro hb'
      exact key j' o1 b hj' hne hb' hb
    · rename_i e
      rw [upd_ne h id hd j (fun e' => e e'.symm)] at hb
      split at hj'
      · rename_i e'
        subst e'
        rw [upd_same]
        exact key j o b hj e hb
      · rename_i e'
        rw [upd_ne h id hd j' (fun e1 => e' e1.symm)]
        exact m.apart j j' o o1 b hj hj' hne hb

/-- The object is written where it lies. -/
theorem Mem.write {objs : List (Nat × O)} (m : Mem C ok h objs w) {id : Nat} {o o' : O} {b : Nat} (hl : look id objs = some o) (hb : (h id).blk = some b) (g : w.grownBy w' (some b))
    (hs : w'.heap.size = w.heap.size) (ho' : RdO w' ok h id o') : Mem C ok h (place id o' objs) w' := by
  obtain ⟨hb1, hb2, hb3⟩ := m.blk id o b hl hb
  have hokb : ∀ k, ok k → w'.heap[k]? = w.heap[k]? := fun k hk => g.block k (m.okb k hk).1 (fun e => by cases e; exact hb2 hk)
  have hms := m.size
  have keep : ∀ j o1, look j (place id o' objs) = some o1 → ∃ o2, look j objs = some o2 := fun j o1 hj => by
    rw [look_place] at hj
    split at hj
    · rename_i e; subst e; exact ⟨o, hl⟩
    · exact ⟨o1, hj⟩
  refine ⟨g.os.trans m.os, g.tape.trans m.tape, g.output.trans m.output, Nat.le_trans m.size g.size, fun k hk hl' => ?_, fun k hk => ?_, fun j o1 hj => ?_, fun j o1 b1 hj hb1' => ?_, fun j j' o1 o2 b1 hj hj' hne hb1' => ?_⟩
  · rw [g.block k (by omega) (fun e => ?_)]
    · exact m.block k hk hl'
    · cases e
      rcases hb3 with h1 | h1
      · omega
      · exact hl' ⟨_, h1⟩
  · have := m.okb k hk
    exact ⟨by omega, this.2⟩
  · rw [look_place] at hj
    split at hj
    · rename_i e
      subst e; cases hj; exact ho'
    · rename_i e
      refine (m.obj j o1 hj).mono hokb (fun _ hb => hb) fun b1 hb1' => g.block b1 (m.blk j o1 b1 hj hb1').1 (fun e' => ?_)
      cases e'
      exact m.apart id j o o1 b hl hj e hb hb1'
  · obtain ⟨o2, h2⟩ := keep j o1 hj
    have := m.blk j o2 b1 h2 hb1'
    exact ⟨by omega, this.2⟩
  · obtain ⟨o3, h3⟩ := keep j o1 hj
    obtain ⟨o4, h4⟩ := keep j' o2 hj'
    exact m.apart j j' o3 o4 b1 h3 h4 hne hb1'

structure CtxOk (C : Ctx) : Prop where
  lt : ∀ b, C.lent b → b < C.w0.heap.size
  nt : C.nt ≤ 50000
  ids : ∀ id o, look id C.objs0 = some o → 50000 ≤ id
  std : Std C.P C.w0
  low : ∀ b, C.lent b → C.P.globals.size ≤ b
theorem Mem.std {objs : List (Nat × O)} (hc : CtxOk C) (m : Mem C ok h objs w) : Std C.P w :=
  hc.std.keep m.size fun k hk => m.block k (Nat.lt_of_lt_of_le hk hc.std.1) fun hl => by have := hc.low k hl; omega

/-- No slot and no other object speaks of an object. -/
def freshB (id : Nat) (st : St) : Bool := st.slots.all (fun p => !says id p.2) && st.objs.all (fun p => p.1 == id || !p.2.says id)

theorem look_mem {α : Type} {i : Nat} {x : α} : ∀ {l : List (Nat × α)}, look i l = some x → (i, x) ∈ l
  | [], hl => by cases hl
  | (j, y) :: r, hl => by
    simp only [look] at hl
    split at hl
    · rename_i e
      subst e; cases hl; exact List.mem_cons_self
    · exact List.mem_cons_of_mem _ (look_mem hl)

theorem fresh_slot {id : Nat} (hf : freshB id st = true) {i : Nat} {x : V} (hl : look i st.slots = some x) : says id x = false := by
  simp only [freshB, Bool.and_eq_true, List.all_eq_true] at hf
  simpa using hf.1 _ (look_mem hl)
theorem fresh_obj {id : Nat} (hf : freshB id st = true) {j : Nat} {o : O} (hj : j ≠ id) (hl : look j st.objs = some o) : o.says id = false := by
  simp only [freshB, Bool.and_eq_true, List.all_eq_true] at hf
  have := hf.2 _ (look_mem hl)
  simpa [hj] using this

/-- A new object. -/
theorem Rep.new (r : Rep C st ok h a w) (hlt : ∀ b, C.lent b → b < C.w0.heap.size) {id : Nat} (hid : id < 100000) (hf : freshB id st = true) (hd : Hd) (o' : O) (ob : Obj) (hblk : hd.blk = some w.heap.size) (ho' : RdO (w.alloc ob) ok (upd h id hd) id o') :
    Rep C { st with objs := place id o' st.objs } ok (upd h id hd) a (w.alloc ob) := by
  refine ⟨r.mem.step id hd o' none (World.grownBy_alloc w ob none) (fun b hb => by cases hb) (fun b hb => ?_) (fun j o hj hl => fresh_obj hf hj hl) ho' hlt, r.defers, r.nt, fun j hj => (upd_ne h id hd j (by omega)).trans (r.pin j hj), fun i x hx => ?_⟩
  · rw [hblk] at hb; cases hb
    exact .inr ⟨Nat.le_refl _, by simp⟩
  · obtain ⟨h1, v, h2, h3⟩ := r.slot i x hx
    exact ⟨h1, v, h2, (h3.mono (fun b hb => Below.heap_alloc w ob b (r.mem.okb b hb).1) fun _ hb => hb).swap (upd_ne h id hd) (fresh_slot hf hx)⟩

/-- What a function of the list level does to a state, and what has to hold. -/
def Does (C : Ctx) (o : Oper) (st st' : St) (p : Prop) : Prop :=
  ∀ ok h a w, Rep C st ok h a w → p → ∃ v w' ok' h', (execOp a.eval o).run C.P w = .ok v w' ∧ ∃ u, (v = .value u ∨ (v = .skip ∧ u = undef)) ∧ Rep C st' ok' h' (a.put o.dst u) w'

theorem newBox (r : Rep C st ok h a w) (hlt : ∀ b, C.lent b → b < C.w0.heap.size) {id : Nat} (hid : id < 100000) (hf : freshB id st = true) (t : TypeId) {v : Value} {cells : List V} (hn : v.cells.size = cells.length)
    (hc : ∀ (k : Nat) (y : V), cells[k]? = some y → says id y = false ∧ ∃ u, v.cells[k]? = some u ∧ RdV w ok h y u) :
    Rep C { st with objs := place id (.box t cells) st.objs } ok (upd h id ⟨some w.heap.size, 0, 0⟩) a (w.alloc (.cells v.cells t)) := by
  refine r.new hlt hid hf _ _ _ rfl ⟨w.heap.size, v.cells, by rw [upd_same], heap_alloc_new w _, hn, fun k y hk => ?_⟩
  obtain ⟨h1, u, h2, h3⟩ := hc k y hk
  exact ⟨u, h2, (h3.mono (fun b hb => Below.heap_alloc w _ b (r.mem.okb b hb).1) fun _ hb => hb).swap (upd_ne h id _) h1⟩

theorem does_alloc {nt : Nat} (hnt : nt = C.nt) (hc : CtxOk C) {t : TypeId} {zs : List Value} {d : Tmp} (ho : o.op = .alloc t) (hdst : o.dst = some d) (hz : eZero C.P t = some zs) (hf : freshB d st = true) (hd : d < nt) :
    Does C o st { slots := place d (.bp d 0) st.slots, objs := place d (.box t (zs.map fun z => .d (.lit z))) st.objs } True := by
  intro ok h a w r _
  obtain ⟨z, h1, h2⟩ := eZero_spec hz w
  have rb := newBox r hc.lt (Nat.lt_of_lt_of_le hd (by rw [hnt]; have := hc.nt; omega)) hf t (v := z) (cells := zs.map fun z => .d (.lit z)) (by rw [← h2]; simp) (fun k y hk => by
    rw [List.getElem?_map] at hk
    obtain ⟨u, h3, h4⟩ := Option.map_eq_some_iff.1 hk
    subst h4
    exact ⟨rfl, u, by rw [← h2, Array.getElem?_toList] at h3; exact h3, .d _ _ (.lit u)⟩)
  refine ⟨.value (.pointer (some ⟨w.heap.size, 0, none⟩)), w.alloc (.cells z.cells t), ok, upd h d ⟨some w.heap.size, 0, 0⟩, ?_, .pointer (some ⟨w.heap.size, 0, none⟩), .inl rfl, ?_⟩
  · simp [execOp, ho, Instr.alloc, h1, newVar, newRow]
  · rw [hdst]
    exact rb.put (d := some d) (fun u hu => by rw [← Option.some.inj hu, ← hnt]; exact hd) (.bp d 0 w.heap.size (by rw [upd_same]))

theorem does_box {nt : Nat} (hnt : nt = C.nt) (hc : CtxOk C) {t : TypeId} {y : Operand} {d : Tmp} (ho : o.op = .box t y) (hdst : o.dst = some d) (he : ev true st y = some x) (h1 : (cellsV x).all oneV = true)
    (hs : saysL d (cellsV x) = false) (hf : freshB d st = true) (hd : d < nt) :
    Does C o st { slots := place d (.bp d 0) st.slots, objs := place d (.box t (cellsV x)) st.objs } True := by
  intro ok h a w r _
  obtain ⟨h2, h3⟩ := cellsV_sound h1 (ev_sound rfl r he)
  have rb := newBox r hc.lt (Nat.lt_of_lt_of_le hd (by rw [hnt]; have := hc.nt; omega)) hf t (v := a.eval y) (cells := cellsV x) h2 (fun k z hk => ⟨saysL_mem hs z (List.mem_of_getElem? hk), let ⟨u, h4, h5, _⟩ := h3 k z hk; ⟨u, h4, h5⟩⟩)
  refine ⟨.value (.pointer (some ⟨w.heap.size, 0, none⟩)), w.alloc (.cells (a.eval y).cells t), ok, upd h d ⟨some w.heap.size, 0, 0⟩, ?_, .pointer (some ⟨w.heap.size, 0, none⟩), .inl rfl, ?_⟩
  rotate_left
  · rw [hdst]
    exact rb.put (d := some d) (fun u hu => by rw [← Option.some.inj hu, ← hnt]; exact hd) (.bp d 0 w.heap.size (by rw [upd_same]))
  · simp [execOp, ho, Instr.box, newVar, newRow]

/-- A row of cells within a block is written. -/
theorem run_storeCells_row {P : Program} (b : Nat) (t : TypeId) (fz : Nat × Nat) : ∀ (vs : List Value) (o : Nat) (cur : Array Value) (w : World), w.heap[b]? = some (.cells cur t fz) → o + vs.length ≤ cur.size → thaw fz cur.size → (∀ v ∈ vs, v.oneCell' = true) →
    ∀ (base i : Nat), base + i = o → ∃ w', (storeCells ⟨b, base, none⟩ vs i).run P w = .ok () w' ∧ w.grownBy w' (some b) ∧ w'.heap.size = w.heap.size ∧
      ∃ cur', w'.heap[b]? = some (.cells cur' t fz) ∧ cur'.size = cur.size ∧ ∀ k, cur'[k]? = if o ≤ k ∧ k < o + vs.length then vs[k - o]? else cur[k]?
  | [], o, cur, w, hg, _, _, _, base, i, _ => ⟨w, rfl, ⟨rfl, rfl, rfl, Nat.le_refl _, fun _ _ _ => rfl⟩, rfl, cur, hg, rfl, fun k => by simp; omega⟩
  | v :: vs, o, cur, w, hg, hl, ht, h1, base, i, hbi => by
    simp only [List.length_cons] at hl
    have hcell : w.cell? ⟨b, o, none⟩ = some cur[o] := by simp [World.cell?, hg]
    have hfr : w.frozen? ⟨b, o, none⟩ = false := by
      have := ht o (by omega)
      simp only [World.frozen?, hg]
      simp only [not_and, Nat.not_lt] at this
      by_cases hx : fz.1 ≤ o
      · simp [this hx]
      · simp [hx]
    have hst : (store (⟨b, o, none⟩ : Addr) v).run P w = .ok () (w.setCell ⟨b, o, none⟩ v) := by
      rw [run_store P w _ v _ (h1 v List.mem_cons_self), hcell, hfr]
      simp
    have hg' : (w.setCell ⟨b, o, none⟩ v).heap[b]? = some (.cells (cur.setIfInBounds o v) t fz) := by
      simp [World.setCell, Array.getElem?_modify, hg]
    obtain ⟨w', hr, g, hs, cur', h2, h3, h4⟩ := run_storeCells_row (P := P) b t fz vs (o + 1) (cur.setIfInBounds o v) (w.setCell ⟨b, o, none⟩ v) hg' (by simp; omega) (by simpa using ht) (fun u hu => h1 u (List.mem_cons_of_mem _ hu)) base (i + 1) (by omega)
    refine ⟨w', ?_, ⟨g.os, g.tape, g.output, by have := g.size; simpa using this, fun k hk hne => ?_⟩, by simpa using hs, cur', h2, by simpa using h3, fun k => ?_⟩
    · simp only [storeCells, addr_add, hbi]
      simp [hst, hr]
    · rw [g.block k (by simpa using hk) hne]
      exact Below.heap_setCell _ _ _ _ (fun e => hne (by rw [e]))
    · rw [h4 k]
      simp only [List.length_cons]
      by_cases hk : k = o
      · subst hk
        rw [if_neg (by omega), if_pos (by omega), Array.getElem?_setIfInBounds]
        simp
        omega
      · by_cases hk2 : o + 1 ≤ k ∧ k < o + 1 + vs.length
        · rw [if_pos hk2, if_pos (by omega)]
          obtain ⟨j, rfl⟩ : ∃ j, k = o + 1 + j := ⟨k - (o + 1), by omega⟩
          have e1 : o + 1 + j - (o + 1) = j := by omega
          have e2 : o + 1 + j - o = j + 1 := by omega
          rw [e1, e2]
          simp
        · rw [if_neg hk2, if_neg (by omega)]
          rw [Array.getElem?_setIfInBounds, if_neg (fun e => hk e.symm)]

theorem run_storeAt {P : Program} {t : TypeId} {n : Nat} (hn : eSz P t = some n) {v : Value} (hv : v.cells.size = n) (b off : Nat) (w : World) :
    (Instr.storeAt t (.pointer (some ⟨b, off, none⟩)) v).run P w = (storeCells ⟨b, off, none⟩ v.cells.toList).run P w := by
  simp [Instr.storeAt, Instr.sureAddr, storeVar, run_sizeOf hn, hv]

theorem does_store {t : TypeId} {n id off : Nat} {ty : TypeId} {cells : List V} {y z : Operand} (ho : o.op = .store t y z) (hdst : o.dst = none) (hn : eSz C.P t = some n)
    (hy : ev true st y = some (.bp id off)) (hl : look id st.objs = some (.box ty cells)) (hz : ev true st z = some x) (h1 : (cellsV x).all oneV = true) (hlen : (cellsV x).length = n) (hfit : off + n ≤ cells.length) :
    Does C o st { st with objs := place id (.box ty (cells.take off ++ cellsV x ++ cells.drop (off + n))) st.objs } True := by
  intro ok h a w r _
  obtain ⟨h2, h3⟩ := cellsV_sound h1 (ev_sound rfl r hz)
  have e1 := ev_sound rfl r hy
  generalize hv : a.eval y = v at e1
  cases e1 with
  | bp _ _ b hb =>
    obtain ⟨b', cs, h4, h5, h6, h7⟩ := r.mem.obj id _ hl
    obtain rfl : b' = b := by rw [h4] at hb; exact Option.some.inj hb
    obtain ⟨w', hr, g, hs, cur', h8, h9, h10⟩ := run_storeCells_row (P := C.P) b' ty (0, 0) (a.eval z).cells.toList off cs w h5 (by simp; omega) (fun o ho => by simp) (fun u hu => by
      obtain ⟨k, hk⟩ := List.mem_iff_getElem?.1 hu
      have hk' : (a.eval z).cells[k]? = some u := by simpa using hk
      have hkl : k < (cellsV x).length := by rw [← h2]; exact (Array.getElem?_eq_some_iff.1 hk').1
      obtain ⟨u', h11, _, h12⟩ := h3 k _ (List.getElem?_eq_getElem hkl)
      rw [hk'] at h11; cases h11; exact h12) off 0 rfl
    have hokb : ∀ k, ok k → w'.heap[k]? = w.heap[k]? := fun k hk => g.block k (r.mem.okb k hk).1 (fun e => by cases e; exact (r.mem.blk id _ b' hl h4).2.1 hk)
    refine ⟨.skip, w', ok, h, ?_, undef, .inr ⟨rfl, rfl⟩, ?_⟩
    · simp [execOp, ho, hv, run_storeAt hn (by omega : (a.eval z).cells.size = n), hr]
    · rw [hdst]
      refine ⟨r.mem.write hl h4 g hs ⟨b', cur', h4, h8, ?_, fun k u hk => ?_⟩, r.defers, r.nt, r.pin, fun i u hu => ?_⟩
      · simp only [List.length_append, List.length_take, List.length_drop]
        omega
      · rw [h10 k]
        simp only [List.length_append, Array.length_toList] at hk ⊢
        by_cases hk1 : k < off
        · rw [if_neg (by omega)]
          rw [List.append_assoc, List.getElem?_append_left (by simp; omega), List.getElem?_take, if_pos hk1] at hk
          obtain ⟨v, h11, h12⟩ := h7 k u hk
          exact ⟨v, h11, h12.mono hokb fun _ hb => hb⟩
        · by_cases hk2 : k < off + n
          · rw [if_pos (by omega)]
            rw [List.append_assoc, List.getElem?_append_right (by simp; omega), List.getElem?_append_left (by simp; omega)] at hk
            simp only [List.length_take] at hk
            rw [Nat.min_eq_left (by omega)] at hk
            obtain ⟨v, h11, h12, _⟩ := h3 _ u hk
            exact ⟨v, by simpa using h11, h12.mono hokb fun _ hb => hb⟩
          · rw [if_neg (by omega)]
            rw [List.append_assoc, List.getElem?_append_right (by simp; omega), List.getElem?_append_right (by simp; omega), List.getElem?_drop] at hk
            simp only [List.length_take] at hk
            rw [Nat.min_eq_left (by omega), hlen, show off + n + (k - off - n) = k by omega] at hk
            obtain ⟨v, h11, h12⟩ := h7 k u hk
            exact ⟨v, h11, h12.mono hokb fun _ hb => hb⟩
      · obtain ⟨h11, v, h12, h13⟩ := r.slot i u hu
        exact ⟨h11, v, h12, h13.mono hokb fun _ hb => hb⟩
end
end Go.Lw
/-
  SLICES OF THE FUNCTION's OWN: made, filled, appended to, on list-level states.
-/
set_option linter.unusedSimpArgs false
set_option linter.unusedVariables false
namespace Go.Lw
open Go.RowKit

def OwnRd (w : World) (ok : Nat → Prop) (sz : Nat) (es : List (List D)) (cur : Array Value) : Prop :=
  ∀ (i : Nat) (l : List D), es[i]? = some l → l.length = sz ∧ ∀ (k : Nat) (d : D), l[k]? = some d → ∃ v, cur[i * sz + k]? = some v ∧ RdD w ok d v

section
variable {C : Ctx} {st : St} {ok : Nat → Prop} {h : Nat → Hd} {a : Act} {w w' : World} {o : Oper} {x : V} {p : Prop}

theorem OwnRd.mono {w w' : World} {ok ok' : Nat → Prop} {sz : Nat} {es : List (List D)} {cur : Array Value} (hw : ∀ b, ok b → w'.heap[b]? = w.heap[b]?) (ho : ∀ b, ok b → ok' b) (hx : OwnRd w ok sz es cur) : OwnRd w' ok' sz es cur :=
  fun i l hi => ⟨(hx i l hi).1, fun k d hk => let ⟨v, hv, hr⟩ := (hx i l hi).2 k d hk; ⟨v, hv, hr.mono hw ho⟩⟩

/-- A new row of the function's own. -/
theorem newOwn (r : Rep C st ok h a w) (hlt : ∀ b, C.lent b → b < C.w0.heap.size) {id : Nat} (hid : id < 100000) (hf : freshB id st = true) (e : TypeId) {sz cap : Nat} {es : List (List D)} {z : List D} {cur : Array Value} (hcap : cap ≤ maxLen) (hle : es.length ≤ cap) (hsz : cur.size = cap * sz)
    (ho : OwnRd w ok sz es cur) : Rep C { st with objs := place id (.own e sz (true, z) es) st.objs } ok (upd h id ⟨some w.heap.size, cap, sz⟩) a (w.alloc (.cells cur e)) := by
  refine r.new hlt hid hf _ _ _ rfl ⟨by rw [upd_same], by rw [upd_same]; exact hcap, .inr ⟨w.heap.size, cur, (0, 0), by rw [upd_same], heap_alloc_new w _, fun o _ => by simp, fun _ => rfl, by rw [upd_same]; exact hle, by rw [upd_same]; exact hsz, ?_⟩⟩
  exact ho.mono (fun b hb => Below.heap_alloc w _ b (r.mem.okb b hb).1) fun _ hb => hb

/-! make -/
theorem madeCells_get (z : Array Value) (n k : Nat) (hz : 0 < z.size) (hk : k < n) : (madeCells z n)[k]? = some (z[k % z.size]'(Nat.mod_lt _ hz)) := by
  have : k % z.size < z.size := Nat.mod_lt _ hz
  simp [madeCells, hk, getElem!_pos, this]
theorem madeCells_size (z : Array Value) (n : Nat) : (madeCells z n).size = n := by simp [madeCells]

theorem does_make {nt : Nat} (hnt : nt = C.nt) (hc : CtxOk C) {t e sz by_ : Nat} {zs : List Value} {y z : Operand} {k k' : IntKind} {n : Int} {d : Tmp} (ho : o.op = .makeSlice t y z) (hdst : o.dst = some d)
    (he : eElem C.P t = some (e, sz)) (hb : eBytes C.P e = some by_) (hz : eZero C.P e = some zs) (hzs : zs.length = sz) (h0 : 0 < sz) (hy : ev true st y = some (.d (.lit (.int k n)))) (hz' : ev true st z = some (.d (.lit (.int k' n)))) (hf : freshB d st = true) (hd : d < nt) :
    Does C o st { slots := place d (.os d n.toNat) st.slots, objs := place d (.own e sz (true, zs.map D.lit) (List.replicate n.toNat (zs.map D.lit))) st.objs } (0 ≤ n ∧ (by_ : Int) * n ≤ 281474976710656 ∧ n ≤ 9223372036854775807) := by
  intro ok h a w r hp
  obtain ⟨h1, h2, h3⟩ := hp
  obtain ⟨hu, i, hi, hs⟩ := eElem_spec he
  obtain ⟨z, hzr, hzl⟩ := eZero_spec hz w
  have hiz : i.zero = some z ∧ i.bytes = by_ := by
    unfold eZero at hz
    unfold eBytes at hb
    simp only at hi
    rw [hi] at hb
    have hbb := Option.some.inj hb
    refine ⟨?_, hbb⟩
    have : (zeroValue e).run C.P w = .ok z w := hzr
    simp [zeroValue, typeInfo, hi] at this
    split at this <;> simp_all
  have e1 := lit_of (ev_sound rfl r hy)
  have e2 := lit_of (ev_sound rfl r hz')
  have hrun := run_make (P := C.P) w t e i z hu hi hiz.1 k k' n n h1 (Int.le_refl _) (by rw [hiz.2]; exact h2) h3
  have hsize : z.cells.size = sz := by rw [← hzs, ← hzl]; simp
  have hn : n.toNat ≤ maxLen := by simp only [maxLen]; omega
  have rn := newOwn (z := zs.map D.lit) r hc.lt (Nat.lt_of_lt_of_le hd (by rw [hnt]; have := hc.nt; omega)) hf e (sz := sz) (cap := n.toNat) (es := List.replicate n.toNat (zs.map D.lit)) (cur := madeCells z.cells (n.toNat * i.size)) hn (by simp) (by rw [madeCells_size, hs]) (fun j l hj => by
    rw [List.getElem?_replicate] at hj
    split at hj
    · rename_i hlt'
      cases hj
      refine ⟨by simp [hzs], fun q d hq => ?_⟩
      rw [List.getElem?_map] at hq
      obtain ⟨v, hv, hvd⟩ := Option.map_eq_some_iff.1 hq
      subst hvd
      have hqs : q < sz := by rw [← hzs]; exact (List.getElem?_eq_some_iff.1 hv).1
      have hidx : j * sz + q < n.toNat * i.size := by
        rw [hs]
        have : (j + 1) * sz ≤ n.toNat * sz := Nat.mul_le_mul_right _ (by omega)
        rw [Nat.add_mul] at this
        simp only at this ⊢
        omega
      refine ⟨v, ?_, .lit v⟩
      rw [madeCells_get _ _ _ (by omega) hidx]
      have hm : (j * sz + q) % z.cells.size = q := by
        rw [hsize, Nat.mul_add_mod', Nat.mod_eq_of_lt hqs]
      have hzq : z.cells[q]? = some v := by rw [← hzl, Array.getElem?_toList] at hv; exact hv
      have hql : q < z.cells.size := by omega
      rw [Array.getElem?_eq_getElem hql] at hzq
      have := Option.some.inj hzq
      subst this
      congr 1
      exact getElem_congr_idx hm
    · cases hj)
  refine ⟨.value (.slice (some ⟨w.heap.size, 0, none⟩) n.toNat n.toNat), w.alloc (.cells (madeCells z.cells (n.toNat * i.size)) e), ok, upd h d ⟨some w.heap.size, n.toNat, sz⟩, ?_, .slice (some ⟨w.heap.size, 0, none⟩) n.toNat n.toNat, .inl rfl, ?_⟩
  · simp [execOp, ho, e1, e2, hrun]
  · rw [hdst]
    have hos : RdV (w.alloc (.cells (madeCells z.cells (n.toNat * i.size)) e)) ok (upd h d ⟨some w.heap.size, n.toNat, sz⟩) (.os d n.toNat) (.slice (some ⟨w.heap.size, 0, none⟩) n.toNat n.toNat) := by
      have := RdV.os (w := w.alloc (.cells (madeCells z.cells (n.toNat * i.size)) e)) (ok := ok) (h := upd h d ⟨some w.heap.size, n.toNat, sz⟩) d n.toNat (by rw [upd_same]; exact Nat.le_refl _)
      rw [upd_same] at this
      exact this
    exact rn.put (d := some d) (fun u hu => by rw [← Option.some.inj hu, ← hnt]; exact hd) hos

/-! a slice literal -/
def rowsV (sz : Nat) : List (List D) → List (Nat × Option V) → Option (List (List D))
  | es, [] => some es
  | es, (i, some x) :: rest => match allD (cellsV x) with
    | some ds => if (cellsV x).all oneV && ds.length == sz && decide (i < es.length) then rowsV sz (es.set i ds) rest else none
    | none => none
  | _, (_, none) :: _ => none

theorem rowsV_length {sz : Nat} : ∀ {parts : List (Nat × Option V)} {es es' : List (List D)}, rowsV sz es parts = some es' → es'.length = es.length
  | [], es, es', he => by cases he; rfl
  | (i, some x) :: rest, es, es', he => by
    simp only [rowsV] at he
    split at he
    · split at he
      · rw [rowsV_length he]; simp
      · cases he
    · cases he
  | (_, none) :: _, es, es', he => by cases he

theorem rowsV_sound {R : Operand → Option V} (hR : Tells w ok h a R) {sz : Nat} : ∀ {parts : List (Nat × Operand)} {es es' : List (List D)} {cur : Array Value},
    rowsV sz es (parts.map fun q => (q.1, R q.2)) = some es' → OwnRd w ok sz es cur → es.length * sz ≤ cur.size →
      ∃ cur', Instr.fill (fun i => some (i * sz, sz)) cur (parts.map fun q => (q.1, a.eval q.2)) = some cur' ∧ cur'.size = cur.size ∧ OwnRd w ok sz es' cur'
  | [], es, es', cur, he, hr, _ => by
    cases he
    exact ⟨cur, rfl, rfl, hr⟩
  | (i, y) :: parts, es, es', cur, he, hr, hle => by
    simp only [List.map_cons] at he ⊢
    cases hy : R y with
    | none => simp [hy, rowsV] at he
    | some x =>
      rw [hy] at he
      simp only [rowsV] at he
      split at he
      · rename_i ds hds
        split at he
        · rename_i hb
          simp only [Bool.and_eq_true, decide_eq_true_eq, beq_iff_eq] at hb
          have hc := allD_spec hds
          obtain ⟨h2, h3⟩ := cellsV_sound hb.1.1 (hR _ _ hy)
          have hvs : (a.eval y).cells.size = sz := by rw [h2, hc]; simpa using hb.1.2
          have hfit : i * sz + (a.eval y).cells.size ≤ cur.size := by
            have : (i + 1) * sz ≤ es.length * sz := Nat.mul_le_mul_right _ (by omega)
            rw [Nat.add_mul] at this
            omega
          obtain ⟨h6, h7⟩ := foldl_arr (i * sz) (a.eval y).cells cur hfit
          have hr' : OwnRd w ok sz (es.set i ds) ((a.eval y).cells.zipIdx.foldl (fun cs x => cs.setIfInBounds (i * sz + x.2) x.1) cur) := by
            intro j l hj
            by_cases hij : j = i
            · subst hij
              rw [List.getElem?_set_self hb.2] at hj
              cases hj
              refine ⟨hb.1.2, fun k d hk => ?_⟩
              have hkl : k < sz := by rw [← hb.1.2]; exact (List.getElem?_eq_some_iff.1 hk).1
              obtain ⟨u, h8, h9, _⟩ := h3 k (.d d) (by rw [hc]; simp [hk])
              refine ⟨u, ?_, by cases h9 with | d _ _ h => exact h⟩
              rw [h7, if_pos (by omega)]
              rw [show j * sz + k - j * sz = k by omega]
              exact h8
            · rw [List.getElem?_set_ne (fun e => hij e.symm)] at hj
              obtain ⟨h8, h9⟩ := hr j l hj
              refine ⟨h8, fun k d hk => ?_⟩
              obtain ⟨v, h10, h11⟩ := h9 k d hk
              have hkl : k < sz := by rw [← h8]; exact (List.getElem?_eq_some_iff.1 hk).1
              refine ⟨v, ?_, h11⟩
              rw [h7, if_neg ?_]
              · exact h10
              · intro ⟨ha, hb'⟩
                rcases Nat.lt_or_gt_of_ne hij with hlt | hgt
                · have : (j + 1) * sz ≤ i * sz := Nat.mul_le_mul_right _ (by omega)
                  rw [Nat.add_mul] at this
                  omega
                · have : (i + 1) * sz ≤ j * sz := Nat.mul_le_mul_right _ (by omega)
                  rw [Nat.add_mul] at this
                  omega
          obtain ⟨cur', h8, h9, h10⟩ := rowsV_sound hR he hr' (by simp only [List.length_set]; rw [h6]; exact hle)
          refine ⟨cur', ?_, by rw [h9, h6], h10⟩
          simp only [Instr.fill]
          rw [if_neg (by simp; omega)]
          exact h8
        · cases he
      · cases he

theorem does_lit {nt : Nat} (hnt : nt = C.nt) (hc : CtxOk C) {t e sz n : Nat} {zs : List Value} {parts : Array (Nat × Operand)} {es : List (List D)} {d : Tmp} (ho : o.op = .buildSlice t n parts) (hdst : o.dst = some d)
    (he : eElem C.P t = some (e, sz)) (hz : eZero C.P e = some zs) (hzs : zs.length = sz) (h0 : 0 < sz) (hn : n * sz ≤ 16777216) (hes : rowsV sz (List.replicate n (zs.map D.lit)) (parts.toList.map fun q => (q.1, ev true st q.2)) = some es)
    (hf : freshB d st = true) (hd : d < nt) :
    Does C o st { slots := place d (.os d n) st.slots, objs := place d (.own e sz (true, zs.map D.lit) es) st.objs } True := by
  intro ok h a w r _
  obtain ⟨hu, i, hi, hs⟩ := eElem_spec he
  simp only at hi hs hu
  obtain ⟨z, hzr, hzl⟩ := eZero_spec hz w
  have hsize : z.cells.size = sz := by rw [← hzs, ← hzl]; simp
  have hnl : n ≤ n * sz := Nat.le_mul_of_pos_right n h0
  have hbase : OwnRd w ok sz (List.replicate n (zs.map D.lit)) ((Array.range (n * sz)).map fun k => z.cells[k % z.cells.size]!) := by
    intro j l hj
    rw [List.getElem?_replicate] at hj
    split at hj
    · cases hj
      refine ⟨by simp [hzs], fun q d hq => ?_⟩
      rw [List.getElem?_map] at hq
      obtain ⟨v, hv, hvd⟩ := Option.map_eq_some_iff.1 hq
      subst hvd
      have hqs : q < sz := by rw [← hzs]; exact (List.getElem?_eq_some_iff.1 hv).1
      have hidx : j * sz + q < n * sz := by
        have : (j + 1) * sz ≤ n * sz := Nat.mul_le_mul_right _ (by omega)
        rw [Nat.add_mul] at this
        omega
      refine ⟨v, ?_, .lit v⟩
      have hm : (j * sz + q) % z.cells.size = q := by
        rw [hsize, Nat.mul_add_mod', Nat.mod_eq_of_lt hqs]
      have hzq : z.cells[q]? = some v := by rw [← hzl, Array.getElem?_toList] at hv; exact hv
      simp [hidx, hm, getElem!_def, hzq]
    · cases hj
  obtain ⟨cur, h1, h2, h3⟩ := rowsV_sound (fun y z => ev_sound rfl r) hes hbase (by simp)
  have hlen : es.length = n := by rw [rowsV_length hes]; simp
  have hcur : cur.size = n * sz := by rw [h2]; simp
  have rn := newOwn (z := zs.map D.lit) r hc.lt (Nat.lt_of_lt_of_le hd (by rw [hnt]; have := hc.nt; omega)) hf e (sz := sz) (cap := n) (es := es) (cur := cur) (by simp only [maxLen]; omega) (by omega) hcur h3
  refine ⟨.value (.slice (some ⟨w.heap.size, 0, none⟩) n n), w.alloc (.cells cur e), ok, upd h d ⟨some w.heap.size, n, sz⟩, ?_, .slice (some ⟨w.heap.size, 0, none⟩) n n, .inl rfl, ?_⟩
  · have hparts : (parts.map fun q => (q.1, a.eval q.2)).toList = parts.toList.map fun q => (q.1, a.eval q.2) := by simp
    have hso : eSz C.P e = some sz := by unfold eSz; rw [hi]; simp [hs]
    have hbig : ¬ n * sz > 2 ^ 24 := by omega
    by_cases hn0 : n * sz = 0
    · have hc0 : cur.size = 0 := by omega
      have harr : ∀ zz : Array Value, ((Array.range (n * sz)).map fun k => zz[k % zz.size]!) = ((Array.range (n * sz)).map fun k => z.cells[k % z.cells.size]!) := fun zz => by
        rw [hn0]; simp
      simp only [execOp, ho, Instr.buildSlice, Sem.run_bind, run_underlying hu, Result.andThen_ok, run_sizeOf hso]
      rw [if_neg hbig]
      simp only [hn0, if_true, Sem.run_pure, Sem.run_bind, Result.andThen_ok]
      have h1' := h1
      rw [← harr #[], hn0] at h1'
      simp only [hparts, h1']
      simp [newRow]
    · simp only [execOp, ho, Instr.buildSlice, Sem.run_bind, run_underlying hu, Result.andThen_ok, run_sizeOf hso]
      rw [if_neg hbig]
      simp only [hn0, if_false, Sem.run_pure, Sem.run_bind, Result.andThen_ok, hzr, hparts, h1]
      simp [newRow]
  · rw [hdst]
    have hos : RdV (w.alloc (.cells cur e)) ok (upd h d ⟨some w.heap.size, n, sz⟩) (.os d n) (.slice (some ⟨w.heap.size, 0, none⟩) n n) := by
      have := RdV.os (w := w.alloc (.cells cur e)) (ok := ok) (h := upd h d ⟨some w.heap.size, n, sz⟩) d n (by rw [upd_same]; exact Nat.le_refl _)
      rw [upd_same] at this
      exact this
    exact rn.put (d := some d) (fun u hu => by rw [← Option.some.inj hu, ← hnt]; exact hd) hos
end
end Go.Lw
/-
  APPENDING, AND STORING INTO A SLICE OF ONE's OWN, on list-level states.
-/
set_option linter.unusedSimpArgs false
set_option linter.unusedVariables false
namespace Go.Lw
open Go.RowKit

section
variable {C : Ctx} {st st' : St} {ok : Nat → Prop} {h : Nat → Hd} {a : Act} {w w' : World} {o : Oper} {x : V} {p : Prop}

/-- What speaks of an object is forgotten. -/
def hushV (id : Nat) (x : V) : V := bif says id x then .any else x
def hushO (id : Nat) : O → O
  | .box t cells => .box t (cells.map (hushV id))
  | .ghost x v => .ghost (hushV id x) v
  | o => o
def hushS (id : Nat) (l : List (Nat × V)) : List (Nat × V) := l.map fun p => (p.1, hushV id p.2)
def hushL (id : Nat) (l : List (Nat × O)) : List (Nat × O) := l.map fun p => (p.1, hushO id p.2)

theorem look_map {α β : Type} (f : α → β) (i : Nat) : ∀ (l : List (Nat × α)), look i (l.map fun p => (p.1, f p.2)) = (look i l).map f
  | [] => rfl
  | (j, x) :: r => by
    simp only [List.map_cons, look]
    split
    · rfl
    · exact look_map f i r

theorem hushV_says (id : Nat) (x : V) : says id (hushV id x) = false := by
  unfold hushV
  cases hs : says id x with
  | true => simp [says]
  | false => simpa using hs
theorem hushO_says (id : Nat) (o : O) : (hushO id o).says id = false := by
  cases o with
  | own => rfl
  | raw => rfl
  | dict => rfl
  | ghost x v => exact hushV_says id x
  | box t cells =>
    simp only [hushO, O.says]
    induction cells with
    | nil => rfl
    | cons x r ih => simp [saysL, hushV_says, ih]
theorem RdV.hush {id : Nat} {v : Value} (hx : RdV w ok h x v) : RdV w ok h (hushV id x) v := by
  unfold hushV
  cases says id x with
  | true => exact .any v
  | false => exact hx
theorem RdO.hush {id j : Nat} {o : O} (hx : RdO w ok h j o) : RdO w ok h j (hushO id o) := by
  cases o with
  | own => exact hx
  | raw => exact hx
  | dict => exact hx
  | ghost x v => exact ⟨hx.1, hx.2.hush⟩
  | box t cells =>
    obtain ⟨b, cs, h1, h2, h3, h4⟩ := hx
    refine ⟨b, cs, h1, h2, by simp [h3], fun k x hk => ?_⟩
    rw [List.getElem?_map] at hk
    obtain ⟨y, hy, hyx⟩ := Option.map_eq_some_iff.1 hk
    subst hyx
    obtain ⟨v, h5, h6⟩ := h4 k y hy
    exact ⟨v, h5, h6.hush⟩
theorem look_hushL {id i : Nat} {l : List (Nat × O)} {o : O} (hl : look i (hushL id l) = some o) : ∃ o', look i l = some o' ∧ o = hushO id o' := by
  unfold hushL at hl
  rw [look_map] at hl
  obtain ⟨o', h1, h2⟩ := Option.map_eq_some_iff.1 hl
  exact ⟨o', h1, h2.symm⟩
theorem look_hushS {id i : Nat} {l : List (Nat × V)} {x : V} (hl : look i (hushS id l) = some x) : ∃ x', look i l = some x' ∧ x = hushV id x' := by
  unfold hushS at hl
  rw [look_map] at hl
  obtain ⟨o', h1, h2⟩ := Option.map_eq_some_iff.1 hl
  exact ⟨o', h1, h2.symm⟩
theorem Mem.hush {objs : List (Nat × O)} (m : Mem C ok h objs w) (id : Nat) : Mem C ok h (hushL id objs) w := by
  refine ⟨m.os, m.tape, m.output, m.size, m.block, m.okb, fun i o hl => ?_, fun i o b hl => ?_, fun i j o o' b hl hl' => ?_⟩
  · obtain ⟨o', h1, rfl⟩ := look_hushL hl
    exact (m.obj i o' h1).hush
  · obtain ⟨o', h1, rfl⟩ := look_hushL hl
    exact m.blk i o' b h1
  · obtain ⟨o1, h1, rfl⟩ := look_hushL hl
    obtain ⟨o2, h2, rfl⟩ := look_hushL hl'
    exact m.apart i j o1 o2 b h1 h2

/-- Cells that may stand in memory. -/
def rowsOk (sz : Nat) (es : List (List D)) : Prop := ∀ l ∈ es, l.length = sz ∧ l.all (fun d => oneV (.d d)) = true

/-- What is appended. -/
def srcE (P : Program) (objs : List (Nat × O)) (tx : TypeId) (sz : Nat) : Option V → Option (List (List D) × Prop)
  | some (.d (.sl m f)) => (eElem P tx).map fun _ => ((List.range m).map f, rowsOk sz ((List.range m).map f))
  | some (.os id m) => match look id objs, eElem P tx with
    | some (.own _ _ _ es), some _ => some (es.take m, m ≤ es.length ∧ rowsOk sz (es.take m))
    | _, _ => none
  | some (.d (.lit (.string s))) => if eStr P tx && sz == 1 then some (s.data.toList.map byteRow, True) else none
  | some (.d (.lit (.slice none 0 0))) => (eElem P tx).map fun _ => ([], True)
  | _ => none

/-- Cells read as rows. -/
def RowsRd (w : World) (ok : Nat → Prop) (sz : Nat) (es : List (List D)) (cs : List Value) : Prop :=
  cs.length = es.length * sz ∧ ∀ (i : Nat) (l : List D), es[i]? = some l → l.length = sz ∧ ∀ (k : Nat) (d : D), l[k]? = some d → ∃ v, cs[i * sz + k]? = some v ∧ RdD w ok d v

theorem rowsRd_of {sz : Nat} {es : List (List D)} {G : Nat → Value} (h0 : 0 < sz) (hr : rowsOk sz es) (hg : ∀ (i k : Nat) (l : List D) (d : D), es[i]? = some l → l[k]? = some d → RdD w ok d (G (i * sz + k))) :
    RowsRd w ok sz es ((List.range (es.length * sz)).map G) ∧ ∀ u ∈ (List.range (es.length * sz)).map G, u.oneCell' = true := by
  refine ⟨⟨by simp, fun i l hi => ?_⟩, fun u hu => ?_⟩
  · have hl := (hr l (List.mem_of_getElem? hi)).1
    refine ⟨hl, fun k d hk => ⟨_, ?_, hg i k l d hi hk⟩⟩
    have hk' : k < sz := by rw [← hl]; exact (List.getElem?_eq_some_iff.1 hk).1
    have hi' : i < es.length := (List.getElem?_eq_some_iff.1 hi).1
    have : (i + 1) * sz ≤ es.length * sz := Nat.mul_le_mul_right _ (by omega)
    rw [Nat.add_mul] at this
    rw [List.getElem?_map, List.getElem?_range (by omega)]
    rfl
  · simp only [List.mem_map, List.mem_range] at hu
    obtain ⟨q, hq, rfl⟩ := hu
    have hi : q / sz < es.length := Nat.div_lt_of_lt_mul (by rw [Nat.mul_comm]; exact hq)
    have hm := hr _ (List.getElem_mem hi)
    have hk : q % sz < (es[q / sz]).length := by rw [hm.1]; exact Nat.mod_lt _ h0
    have hrd := hg (q / sz) (q % sz) _ _ (List.getElem?_eq_getElem hi) (List.getElem?_eq_getElem hk)
    rw [Nat.div_add_mod'] at hrd
    have h1 := List.all_eq_true.1 hm.2 _ (List.getElem_mem hk)
    exact oneV_sound (w := w) (ok := ok) (h := fun _ => ⟨none, 0, 0⟩) h1 (.d _ _ hrd)

theorem src_sound (r : Rep C st ok h a w) {t tx e sz : Nat} {y : Operand} {news : List (List D)} (h0 : 0 < sz) (he : srcE C.P st.objs tx sz (ev true st y) = some (news, p)) (hp : p) :
    ∃ cs, Src C.P sz tx (a.eval y) news.length cs w ∧ RowsRd w ok sz news cs := by
  unfold srcE at he
  split at he
  · rename_i m f hy
    obtain ⟨q, hq, hx⟩ := Option.map_eq_some_iff.1 he
    obtain ⟨rfl, rfl⟩ := Prod.mk.inj hx
    obtain ⟨hu, _⟩ := eElem_spec hq
    have e1 := ev_sound rfl r hy
    generalize hv : a.eval y = v at e1
    cases e1 with
    | d _ _ hx => cases hx with
      | sl _ _ A cap size b off g hc hm hA hl hg hd =>
        rcases Nat.eq_zero_or_pos m with rfl | hm0
        · refine ⟨[], ?_, by simp [RowsRd]⟩
          cases A with
          | none => exact ⟨.inl ⟨_, hu⟩, fun _ => rfl, by simp [Builtin.firstCells], by simp [Builtin.firstCells], by simp, fun _ hx => by cases hx⟩
          | some A => exact Src.ofSlice w hu A 0 cap [] (by simp) (fun j u hj => by simp at hj) (fun u hu => by cases hu)
        · obtain ⟨rfl, hok⟩ := hA hm0
          have hsz : size = sz := by rw [← hl 0 hm0]; exact (hp (f 0) (by simp; exact ⟨0, hm0, rfl⟩)).1
          subst hsz
          have hcell : ∀ i k, i < m → k < size → w.cell? ⟨b, off + (i * size + k), none⟩ = some (g i k) := fun i k hi hk => by rw [← Nat.add_assoc]; exact hg i k hi hk
          let G : Nat → Value := fun q => g (q / size) (q % size)
          have hG : ∀ i k, i < m → k < size → G (i * size + k) = g i k := fun i k hi hk => by
            simp only [G]
            rw [Nat.mul_comm i size, Nat.mul_add_div h0, Nat.div_eq_of_lt hk, Nat.mul_add_mod, Nat.mod_eq_of_lt hk, Nat.add_zero]
          obtain ⟨h1, h2⟩ := rowsRd_of (w := w) (ok := ok) (G := G) h0 hp (fun i k l d hi hk => by
            simp only [List.getElem?_map, Option.map_eq_some_iff] at hi
            obtain ⟨i', hi', rfl⟩ := hi
            obtain ⟨hlt, hi'⟩ := List.getElem?_eq_some_iff.1 hi'
            simp at hi' hlt
            subst hi'
            have hkl : k < size := by rw [← hl i hlt]; exact (List.getElem?_eq_some_iff.1 hk).1
            rw [hG i k hlt hkl]
            exact hd i k d hlt hk)
          simp only [List.length_map, List.length_range] at h1 h2 ⊢
          refine ⟨_, Src.ofSlice w hu ⟨b, off, none⟩ m cap ((List.range (m * size)).map G) (by simp) (fun j u hj => ?_) h2, h1⟩
          simp only [List.getElem?_map, Option.map_eq_some_iff] at hj
          obtain ⟨q, hq', rfl⟩ := hj
          obtain ⟨hlt, hq'⟩ := List.getElem?_eq_some_iff.1 hq'
          simp at hq' hlt
          subst hq'
          rw [addr_add]
          have hi : j / size < m := Nat.div_lt_of_lt_mul (by rw [Nat.mul_comm]; exact hlt)
          have := hcell (j / size) (j % size) hi (Nat.mod_lt _ h0)
          rw [Nat.div_add_mod'] at this
          exact this
  · rename_i id m hy
    split at he
    · rename_i e' sz' gr es q hl hq
      obtain ⟨rfl, rfl⟩ := Prod.mk.inj (Option.some.inj he)
      obtain ⟨hu, _⟩ := eElem_spec hq
      obtain ⟨hm, hp⟩ := hp
      have e1 := ev_sound rfl r hy
      generalize hv : a.eval y = v at e1
      cases e1 with
      | os _ _ hcap =>
        obtain ⟨hsz, hcm, h5⟩ := r.mem.obj id _ hl
        rcases h5 with ⟨h6, h7, h8⟩ | ⟨b, cur, fz, h1, h2, h3, _, h4, h5, h6⟩
        · subst h7
          obtain rfl : m = 0 := by simpa using hm
          refine ⟨[], ?_, by simp [RowsRd]⟩
          simp only [Hd.addr, h6]
          exact ⟨.inl ⟨_, hu⟩, fun _ => rfl, by simp [Builtin.firstCells], by simp [Builtin.firstCells], by simp, fun _ hx => by cases hx⟩
        · have hlen : (es.take m).length = m := by simp; omega
          rcases Nat.eq_zero_or_pos m with rfl | hm0
          · refine ⟨[], ?_, by simp [RowsRd]⟩
            simp only [Hd.addr, h1]
            exact Src.ofSlice w hu _ 0 _ [] (by simp) (fun j u hj => by simp at hj) (fun u hu => by cases hu)
          · have hse : sz' = sz := by
              have : 0 < es.length := by omega
              have h7 := (h6 0 _ (List.getElem?_eq_getElem this)).1
              have h8 := (hp (es[0]) (List.mem_of_getElem? (i := 0) (by rw [List.getElem?_take, if_pos hm0]; exact List.getElem?_eq_getElem this))).1
              rw [← h7, ← h8]
            subst hse
            let G : Nat → Value := fun q => cur.getD q undef
            obtain ⟨g1, g2⟩ := rowsRd_of (w := w) (ok := ok) (G := G) h0 hp (fun i k l d hi hk => by
              rw [List.getElem?_take] at hi
              split at hi
              · obtain ⟨v, h9, h10⟩ := (h6 i l hi).2 k d hk
                have : G (i * sz' + k) = v := by simp [G, Array.getD_eq_getD_getElem?, h9]
                rw [this]; exact h10
              · cases hi)
            rw [hlen] at g1 g2 ⊢
            simp only [Hd.addr, h1]
            refine ⟨_, Src.ofSlice w hu _ m _ ((List.range (m * sz')).map G) (by simp) (fun j u hj => ?_) g2, ?_⟩
            · simp only [List.getElem?_map, Option.map_eq_some_iff] at hj
              obtain ⟨q, hq', rfl⟩ := hj
              obtain ⟨hlt, hq'⟩ := List.getElem?_eq_some_iff.1 hq'
              simp at hq' hlt
              subst hq'
              have : m * sz' ≤ (h id).cap * sz' := Nat.mul_le_mul_right _ (by omega)
              have hjc : j < cur.size := by omega
              rw [addr_add]
              simp [World.cell?, h2, G, hjc]
            · exact g1
    · cases he
  · rename_i s hy
    split at he
    · rename_i hb
      simp only [Bool.and_eq_true, beq_iff_eq] at hb
      obtain ⟨hs, rfl⟩ := hb
      obtain ⟨rfl, rfl⟩ := Prod.mk.inj (Option.some.inj he)
      have e1 := lit_of (ev_sound rfl r hy)
      rw [e1]
      have hsrc := Src.ofString (P := C.P) w (tx := tx) (eStr_spec hs) s
      have hl : (s.data.toList.map byteRow).length = s.size := by simp
      rw [hl]
      refine ⟨_, hsrc, by simp [byteCells_length], fun i l hi => ?_⟩
      rw [List.getElem?_map] at hi
      obtain ⟨b, h1, h2⟩ := Option.map_eq_some_iff.1 hi
      subst h2
      refine ⟨rfl, fun k d hk => ?_⟩
      cases k with
      | succ k => simp [byteRow] at hk
      | zero =>
        cases hk
        exact ⟨.int .u8 (b.toNat : Int), by simp [byteCells, List.getElem?_map]; exact ⟨b, by simpa using h1, rfl⟩, .lit _⟩
    · cases he
  · rename_i hy
    obtain ⟨q, hq, hx⟩ := Option.map_eq_some_iff.1 he
    obtain ⟨rfl, rfl⟩ := Prod.mk.inj hx
    obtain ⟨hu, _⟩ := eElem_spec hq
    have e1 := lit_of (ev_sound rfl r hy)
    rw [e1]
    exact ⟨[], Src.ofNil w hu 0, by simp [RowsRd]⟩
  · cases he

theorem RowsRd.mono {w w' : World} {ok ok' : Nat → Prop} {sz : Nat} {es : List (List D)} {cs : List Value} (hw : ∀ b, ok b → w'.heap[b]? = w.heap[b]?) (ho : ∀ b, ok b → ok' b) (hx : RowsRd w ok sz es cs) : RowsRd w' ok' sz es cs :=
  ⟨hx.1, fun i l hi => ⟨(hx.2 i l hi).1, fun k d hk => let ⟨v, hv, hr⟩ := (hx.2 i l hi).2 k d hk; ⟨v, hv, hr.mono hw ho⟩⟩⟩
theorem RowsRd.append {sz : Nat} {es fs : List (List D)} {cs ds : List Value} (h1 : RowsRd w ok sz es cs) (h2 : RowsRd w ok sz fs ds) : RowsRd w ok sz (es ++ fs) (cs ++ ds) := by
  refine ⟨by simp [h1.1, h2.1, Nat.add_mul], fun i l hi => ?_⟩
  by_cases hlt : i < es.length
  · rw [List.getElem?_append_left hlt] at hi
    obtain ⟨h3, h4⟩ := h1.2 i l hi
    refine ⟨h3, fun k d hk => ?_⟩
    obtain ⟨v, h5, h6⟩ := h4 k d hk
    exact ⟨v, by rw [List.getElem?_append_left (List.getElem?_eq_some_iff.1 h5).1]; exact h5, h6⟩
  · rw [List.getElem?_append_right (by omega)] at hi
    obtain ⟨h3, h4⟩ := h2.2 _ l hi
    refine ⟨h3, fun k d hk => ?_⟩
    obtain ⟨v, h5, h6⟩ := h4 k d hk
    obtain ⟨j, rfl⟩ : ∃ j, i = es.length + j := ⟨i - es.length, by omega⟩
    rw [show es.length + j - es.length = j by omega] at h5
    refine ⟨v, ?_, h6⟩
    rw [List.getElem?_append_right (by rw [h1.1, Nat.add_mul]; omega), h1.1, Nat.add_mul, show es.length * sz + j * sz + k - es.length * sz = j * sz + k by omega]
    exact h5
/-- Rows that stand ahead in a block's cells. -/
theorem RowsRd.own {sz : Nat} {es : List (List D)} {cs : List Value} {cur : Array Value} (hx : RowsRd w ok sz es cs) (hc : ∀ q, q < cs.length → cur[q]? = cs[q]?) : OwnRd w ok sz es cur :=
  fun i l hi => ⟨(hx.2 i l hi).1, fun k d hk => by
    obtain ⟨v, h1, h2⟩ := (hx.2 i l hi).2 k d hk
    exact ⟨v, by rw [hc _ (List.getElem?_eq_some_iff.1 h1).1]; exact h1, h2⟩⟩
theorem OwnRd.rows {sz : Nat} {es : List (List D)} {cur : Array Value} (hx : OwnRd w ok sz es cur) {n : Nat} (hn : n ≤ es.length) (hc : n * sz ≤ cur.size) : RowsRd w ok sz (es.take n) (cur.toList.take (n * sz)) := by
  have hl : (es.take n).length = n := by simp; omega
  refine ⟨by rw [hl]; simp; omega, fun i l hi => ?_⟩
  rw [List.getElem?_take] at hi
  split at hi
  · rename_i hin
    obtain ⟨h1, h2⟩ := hx i l hi
    refine ⟨h1, fun k d hk => ?_⟩
    obtain ⟨v, h3, h4⟩ := h2 k d hk
    refine ⟨v, ?_, h4⟩
    have hk' : k < sz := by rw [← h1]; exact (List.getElem?_eq_some_iff.1 hk).1
    have : (i + 1) * sz ≤ n * sz := Nat.mul_le_mul_right _ (by omega)
    rw [Nat.add_mul] at this
    rw [List.getElem?_take, if_pos (by omega)]
    simpa using h3
  · cases hi

/-- There is room. -/
theorem run_append_room_row {P : Program} {t tx ty e : TypeId} {i : TypeInfo} (ht : P.underlying t = some (.slice e)) (hi : P.info? e = some i) {g n cap m : Nat} {cur : Array Value} {fz : Nat × Nat} (hg : w.heap[g]? = some (.cells cur e fz)) (hth : thaw fz cur.size)
    {y : Value} {cs : List Value} (hs : Src P i.size tx y m cs w) (hroom : n + m ≤ cap) (hcs : cur.size = cap * i.size) :
    ∃ w', (Builtin.append_ #[t, tx] ty #[.slice (some ⟨g, 0, none⟩) n cap, y]).run P w = .ok (.slice (some ⟨g, 0, none⟩) (n + m) cap) w' ∧ w.grownBy w' (some g) ∧ w'.heap.size = w.heap.size ∧
      ∃ cur', w'.heap[g]? = some (.cells cur' e fz) ∧ cur'.size = cur.size ∧ ∀ k, cur'[k]? = if n * i.size ≤ k ∧ k < n * i.size + cs.length then cs[k - n * i.size]? else cur[k]? := by
  have hfit : n * i.size + cs.length ≤ cur.size := by
    rw [hs.newsLen, hcs, ← Nat.add_mul]
    exact Nat.mul_le_mul_right _ hroom
  obtain ⟨w', hr, h1, h2, cur', h3, h4, h5⟩ := run_storeCells_row (P := P) g e fz cs (n * i.size) cur w hg hfit hth hs.one (n * i.size) 0 rfl
  refine ⟨w', ?_, h1, h2, cur', h3, h4, h5⟩
  rcases hs.kind with ⟨e', hk⟩ | hk <;> simp [Builtin.append_, run_underlying ht, run_underlying hk, sizeOf, typeInfo, hi, hs.len, hroom, hs.cells, addr_add, hr]

theorem append_core (hc : CtxOk C) (r : Rep C st ok h a w) {t tx e sz by_ id n : Nat} {zs : List Value} {y z : Operand} {gr : Bool × List D} {es news : List (List D)} {d : Tmp} (ho : o.op = .call { callee := .builtin .append, args := #[y, z], argTypes := #[t, tx] })
    (hdst : o.dst = some d) (he : eElem C.P t = some (e, sz)) (hb : eBytes C.P e = some by_) (hz : eZero C.P e = some zs) (hzs : zs.length = sz) (h0 : 0 < sz) (e1 : RdV w ok h (.os id n) (a.eval y)) (hl : look id st.objs = some (.own e sz gr es)) (hgr : gr.1 = true)
    (hsrc : srcE C.P st.objs tx sz (ev true st z) = some (news, p)) (hid : id < 100000) (hd : d < C.nt) (hp' : p ∧ n ≤ es.length ∧ n + news.length ≤ 9223372036854775807 ∧ (n + news.length) * by_ ≤ 140737488355328) :
    ∃ v w' ok' h', (execOp a.eval o).run C.P w = .ok v w' ∧ ∃ u, (v = .value u ∨ (v = .skip ∧ u = undef)) ∧ Rep C { slots := place d (.os id (n + news.length)) (hushS id st.slots), objs := place id (.own e sz gr (es.take n ++ news)) (hushL id st.objs) } ok' h' (a.put o.dst u) w' := by
  obtain ⟨hp, hn, h63, hbytes⟩ := hp'
  obtain ⟨hu, i, hi, hs⟩ := eElem_spec he
  simp only at hu hi hs
  obtain ⟨zv, hzr, hzl⟩ := eZero_spec hz w
  have hiz : i.zero = some zv ∧ i.bytes = by_ := by
    unfold eZero at hz
    unfold eBytes at hb
    rw [hi] at hb
    have hbb := Option.some.inj hb
    refine ⟨?_, hbb⟩
    have : (zeroValue e).run C.P w = .ok zv w := hzr
    simp [zeroValue, typeInfo, hi] at this
    split at this <;> simp_all
  obtain ⟨cs, hS, hcs⟩ := src_sound (e := e) (t := t) r h0 hsrc hp
  subst hs
  have hsize : zv.cells.size = i.size := by rw [← hzs, ← hzl]; simp
  generalize hv : a.eval y = v at e1
  have hmax : n + news.length ≤ maxLen := by simp only [maxLen]; omega
  cases e1 with
  | os _ _ hcap =>
    obtain ⟨hsz, hcm, h5⟩ := r.mem.obj id _ hl
    have hm := r.mem.hush id
    have hso : ∀ j o, j ≠ id → look j (hushL id st.objs) = some o → o.says id = false := fun j o _ hj => by
      obtain ⟨o', _, rfl⟩ := look_hushL hj
      exact hushO_says id o'
    have hlh : look id (hushL id st.objs) = some (.own e i.size gr es) := by
      unfold hushL
      rw [look_map, hl]
      rfl
    -- what is left to say, whatever the block
    have fin : ∀ (w' : World) (hd' : Hd) (cur' : Array Value) (b' : Nat), (execOp a.eval o).run C.P w = .ok (.value (.slice (some ⟨b', 0, none⟩) (n + news.length) hd'.cap)) w' →
        hd'.blk = some b' → hd'.sz = i.size → hd'.cap ≤ maxLen → n + news.length ≤ hd'.cap → w'.heap[b']? = some (.cells cur' e (0, 0)) → cur'.size = hd'.cap * i.size → OwnRd w' ok i.size (es.take n ++ news) cur' →
        w.grownBy w' (h id).blk → (∀ b, hd'.blk = some b → (h id).blk = some b ∨ (w.heap.size ≤ b ∧ b < w'.heap.size)) →
        ∃ v w' ok' h', (execOp a.eval o).run C.P w = .ok v w' ∧ ∃ u, (v = .value u ∨ (v = .skip ∧ u = undef)) ∧ Rep C { slots := place d (.os id (n + news.length)) (hushS id st.slots), objs := place id (.own e i.size gr (es.take n ++ news)) (hushL id st.objs) } ok' h' (a.put o.dst u) w' := by
      intro w' hd' cur' b' hrun hb1 hb2 hb3 hb4 hb5 hb6 hb7 g hblk
      have hlen : (es.take n ++ news).length = n + news.length := by simp; omega
      have hokb : ∀ b, ok b → w'.heap[b]? = w.heap[b]? := fun b hb => g.block b (r.mem.okb b hb).1 (fun e => (r.mem.blk id _ b hl e.symm).2.1 hb)
      have hmem := hm.step (w' := w') id hd' (.own e i.size gr (es.take n ++ news)) (h id).blk g (fun b hb => ⟨_, hlh, hb⟩) hblk hso ⟨by rw [upd_same]; exact hb2, by rw [upd_same]; exact hb3, .inr ⟨b', cur', (0, 0), by rw [upd_same]; exact hb1, hb5, fun o _ => by simp, fun _ => rfl, by rw [upd_same, hlen]; exact hb4, by rw [upd_same]; exact hb6, hb7⟩⟩ hc.lt
      have hrep : Rep C { slots := hushS id st.slots, objs := place id (.own e i.size gr (es.take n ++ news)) (hushL id st.objs) } ok (upd h id hd') a w' := by
        refine ⟨hmem, r.defers, r.nt, fun j hj => (upd_ne h id hd' j (by omega)).trans (r.pin j hj), fun j x hx => ?_⟩
        obtain ⟨x', h6, rfl⟩ := look_hushS hx
        obtain ⟨h7, u, h8, h9⟩ := r.slot j x' h6
        exact ⟨h7, u, h8, (h9.hush.mono hokb fun _ hb => hb).swap (upd_ne h id hd') (hushV_says id x')⟩
      refine ⟨_, w', ok, upd h id hd', hrun, _, .inl rfl, ?_⟩
      rw [hdst]
      have hos : RdV w' ok (upd h id hd') (.os id (n + news.length)) (.slice (some ⟨b', 0, none⟩) (n + news.length) hd'.cap) := by
        have := RdV.os (w := w') (ok := ok) (h := upd h id hd') id (n + news.length) (by rw [upd_same]; exact hb4)
        rw [upd_same] at this
        simpa [Hd.addr, hb1] using this
      exact hrep.put (d := some d) (fun u hu => by rw [← Option.some.inj hu]; exact hd) hos
    have nothing : news.length = 0 → ∃ v w' ok' h', (execOp a.eval o).run C.P w = .ok v w' ∧ ∃ u, (v = .value u ∨ (v = .skip ∧ u = undef)) ∧ Rep C { slots := place d (.os id (n + news.length)) (hushS id st.slots), objs := place id (.own e i.size gr (es.take n ++ news)) (hushL id st.objs) } ok' h' (a.put o.dst u) w' := by
      intro hn0
      obtain rfl : news = [] := List.eq_nil_of_length_eq_zero hn0
      obtain rfl : cs = [] := List.eq_nil_of_length_eq_zero (by simpa using hcs.1)
      refine ⟨.value (.slice (h id).addr n (h id).cap), w, ok, h, ?_, _, .inl rfl, ?_⟩
      · have hrun := run_append_nothing (P := C.P) w t tx o.type e i hu hi (h id).addr n (h id).cap hcap (a.eval z) hS
        simp [execOp, ho, resolve, invoke, builtin, hv, hrun]
      · rw [hdst]
        have hos : RdV w ok h (.os id (n + ([] : List (List D)).length)) (.slice (h id).addr n (h id).cap) := .os id n hcap
        refine Rep.put (st := { slots := hushS id st.slots, objs := place id (.own e i.size gr (es.take n ++ [])) (hushL id st.objs) }) (d := some d) ?_ (fun u hu => by rw [← Option.some.inj hu]; exact hd) hos
        refine ⟨?_, r.defers, r.nt, r.pin, fun j x hx => ?_⟩
        · refine ⟨hm.os, hm.tape, hm.output, hm.size, hm.block, hm.okb, fun j o1 hj => ?_, fun j o1 b hj hb => ?_, fun j j' o1 o2 b hj hj' hne hb => ?_⟩
          · rw [look_place] at hj
            split at hj
            · rename_i e'
              subst e'; cases hj
              rw [List.append_nil]
              refine ⟨hsz, hcm, ?_⟩
              rcases h5 with ⟨h6, h7, h8⟩ | ⟨b', cur, fz, h6, h7, h8, h8', h9, h10, h11⟩
              · exact .inl ⟨h6, by rw [h7]; simp, h8⟩
              · exact .inr ⟨b', cur, fz, h6, h7, h8, h8', by simp; omega, h10, fun k l hk => by
                  rw [List.getElem?_take] at hk
                  split at hk
                  · exact h11 k l hk
                  · cases hk⟩
            · exact hm.obj j o1 hj
          · rw [look_place] at hj
            split at hj
            · rename_i e'
              subst e'
              exact hm.blk _ _ b hlh hb
            · exact hm.blk j o1 b hj hb
          · rw [look_place] at hj hj'
            have key : ∀ j o1, (if id = j then some (O.own e i.size gr (es.take n ++ [])) else look j (hushL id st.objs)) = some o1 → ∃ o2, look j (hushL id st.objs) = some o2 := fun j o1 hj => by
              split at hj
              · rename_i e'
                subst e'; exact ⟨_, hlh⟩
              · exact ⟨_, hj⟩
            obtain ⟨o3, h12⟩ := key j o1 hj
            obtain ⟨o4, h13⟩ := key j' o2 hj'
            exact hm.apart j j' o3 o4 b h12 h13 hne hb
        · obtain ⟨x', h6, rfl⟩ := look_hushS hx
          obtain ⟨h7, u, h8, h9⟩ := r.slot j x' h6
          exact ⟨h7, u, h8, h9.hush⟩
    -- a new row
    have grow : ∀ (A : Option Addr) (olds : List Value), (h id).addr = A → (Builtin.firstCells i.size n (.slice A n (h id).cap)).run C.P w.drew = .ok olds.toArray w.drew → (h id).cap < n + news.length → RowsRd w ok i.size (es.take n) olds →
        ∃ v w' ok' h', (execOp a.eval o).run C.P w = .ok v w' ∧ ∃ u, (v = .value u ∨ (v = .skip ∧ u = undef)) ∧ Rep C { slots := place d (.os id (n + news.length)) (hushS id st.slots), objs := place id (.own e i.size gr (es.take n ++ news)) (hushL id st.objs) } ok' h' (a.put o.dst u) w' := by
      intro A olds hA hold hg hrd
      have hrun := run_append_grow_src (P := C.P) w t tx o.type e i zv hu hi hiz.1 A n (h id).cap olds hold (a.eval z) news.length cs hS hg (by omega) (growslice_fits hg (by rw [hiz.2]; exact hbytes))
      have hge := grownCap_ge w (n + news.length) (h id).cap e
      have hcm' := grownCap_le_maxLen w (n + news.length) (h id).cap e hmax
      have hrl := hrd.1
      have hcl := hcs.1
      have hL : (olds ++ cs).length = (n + news.length) * i.size := by
        rw [List.length_append, hrl, hcl, List.length_take, Nat.min_eq_left hn, Nat.add_mul]
      have hall : ∀ b, ok b → (w.drew.alloc (.cells ((olds ++ cs).toArray ++ Builtin.zeroCells zv.cells (grownCap w (n + news.length) (h id).cap e - (n + news.length))) e)).heap[b]? = w.heap[b]? := fun b hb => Below.heap_alloc w.drew _ b (r.mem.okb b hb).1
      refine fin (w.drew.alloc (.cells ((olds ++ cs).toArray ++ Builtin.zeroCells zv.cells (grownCap w (n + news.length) (h id).cap e - (n + news.length))) e)) ⟨some w.heap.size, grownCap w (n + news.length) (h id).cap e, i.size⟩ _ w.heap.size ?_ rfl rfl hcm' hge (heap_alloc_new w.drew _) ?_ ?_ ?_ ?_
      · simp only [execOp, ho, resolve, invoke, builtin, Sem.run_bind, Sem.run_pure, Result.andThen_ok, List.map_toArray, List.map_cons, List.map_nil, hv, hA, hrun]
      · simp only [Array.size_append, List.size_toArray, hL, size_zeroCells, hsize, ← Nat.add_mul]
        congr 1
        omega
      · refine ((hrd.append hcs).own (cur := (olds ++ cs).toArray ++ Builtin.zeroCells zv.cells (grownCap w (n + news.length) (h id).cap e - (n + news.length))) (fun q hq => ?_)).mono hall fun _ hb => hb
        rw [Array.getElem?_append_left (by simpa using hq), List.getElem?_toArray]
      · exact ⟨rfl, rfl, rfl, by simp, fun k hk _ => Below.heap_alloc w.drew _ k hk⟩
      · intro b hb
        cases hb
        exact .inr ⟨Nat.le_refl _, by simp⟩
    rcases h5 with ⟨h6, h7, h8⟩ | ⟨b', cur, fz, h6, h7, h8, h8', h9, h10, h11⟩
    · subst h7
      obtain rfl : n = 0 := by simpa using hn
      rcases Nat.eq_zero_or_pos news.length with hn0 | hn0
      · exact nothing hn0
      · refine grow none [] (by simp [Hd.addr, h6]) ?_ (by omega) (by simp [RowsRd])
        simp [Builtin.firstCells]
    · obtain rfl := h8' hgr
      by_cases hroom : n + news.length ≤ (h id).cap
      · obtain ⟨w', hrun, g, hsz', cur', h12, h13, h14⟩ := run_append_room_row (P := C.P) (ty := o.type) hu hi h7 h8 hS hroom h10
        have hokb : ∀ b, ok b → w'.heap[b]? = w.heap[b]? := fun b hb => g.block b (r.mem.okb b hb).1 (fun e => (r.mem.blk id _ b hl (by rw [h6, ← e])).2.1 hb)
        refine fin w' (h id) cur' b' ?_ h6 hsz hcm hroom h12 (by omega) ?_ (by rw [h6]; exact g) (fun b hb => .inl hb)
        · simp only [execOp, ho, resolve, invoke, builtin, Sem.run_bind, Sem.run_pure, Result.andThen_ok, List.map_toArray, List.map_cons, List.map_nil, hv, Hd.addr, h6, Option.map_some, hrun]
        · have hncap : n * i.size ≤ cur.size := by rw [h10]; exact Nat.mul_le_mul_right _ (by omega)
          have hrows := OwnRd.rows (w := w) (ok := ok) h11 hn hncap
          have hrl := hrows.1
          refine ((hrows.append hcs).own (cur := cur') (fun q hq => ?_)).mono hokb fun _ hb => hb
          have hcl := hcs.1
          have htl : (cur.toList.take (n * i.size)).length = n * i.size := by simp; omega
          rw [h14 q]
          simp only [List.length_append] at hq
          by_cases hq1 : q < n * i.size
          · rw [if_neg (by omega), List.getElem?_append_left (by omega), List.getElem?_take, if_pos hq1]
            simp
          · rw [if_pos (by omega), List.getElem?_append_right (by omega), htl]
      · have hncap : n * i.size ≤ cur.size := by rw [h10]; exact Nat.mul_le_mul_right _ (by omega)
        have hrows := OwnRd.rows (w := w) (ok := ok) h11 hn hncap
        refine grow (some ⟨b', 0, none⟩) (cur.toList.take (n * i.size)) (by simp [Hd.addr, h6]) ?_ (by omega) hrows
        refine run_firstCells_some w.drew i.size n ⟨b', 0, none⟩ n (h id).cap _ (by simp; omega) (fun j u hj => ?_)
        rw [List.getElem?_take] at hj
        split at hj
        · rw [addr_add]
          have : w.drew.heap[b']? = some (.cells cur e (0, 0)) := h7
          have hj' : cur[j]? = some u := by simpa using hj
          simp only [World.cell?, Nat.zero_add, this]
          exact hj'
        · cases hj

theorem does_append {nt : Nat} (hnt : nt = C.nt) (hc : CtxOk C) {t tx e sz by_ id n : Nat} {zs : List Value} {y z : Operand} {gr : Bool × List D} {es news : List (List D)} {d : Tmp} (ho : o.op = .call { callee := .builtin .append, args := #[y, z], argTypes := #[t, tx] })
    (hdst : o.dst = some d) (he : eElem C.P t = some (e, sz)) (hb : eBytes C.P e = some by_) (hz : eZero C.P e = some zs) (hzs : zs.length = sz) (h0 : 0 < sz) (hy : ev true st y = some (.os id n)) (hl : look id st.objs = some (.own e sz gr es)) (hgr : gr.1 = true)
    (hsrc : srcE C.P st.objs tx sz (ev true st z) = some (news, p)) (hid : id < 100000) (hd : d < nt) :
    Does C o st { slots := place d (.os id (n + news.length)) (hushS id st.slots), objs := place id (.own e sz gr (es.take n ++ news)) (hushL id st.objs) }
      (p ∧ n ≤ es.length ∧ n + news.length ≤ 9223372036854775807 ∧ (n + news.length) * by_ ≤ 140737488355328) :=
  fun ok h a w r hp => append_core hc r ho hdst he hb hz hzs h0 (ev_sound rfl r hy) hl hgr hsrc hid (hnt ▸ hd) hp

/-- A field of an element is written. -/
theorem does_storeEl {t : TypeId} {n id j off : Nat} {e : TypeId} {sz : Nat} {gr : Bool × List D} {es : List (List D)} {ds : List D} {y z : Operand} (ho : o.op = .store t y z) (hdst : o.dst = none) (hn : eSz C.P t = some n)
    (hy : ev true st y = some (.el id j off)) (hl : look id st.objs = some (.own e sz gr es)) (hz : ev true st z = some x) (h1 : (cellsV x).all oneV = true) (hds : allD (cellsV x) = some ds) (hlen : (cellsV x).length = n) (hfit : off + n ≤ sz) :
    Does C o st { st with objs := place id (.own e sz gr (es.set j ((es.getD j gr.2).take off ++ ds ++ (es.getD j gr.2).drop (off + n)))) st.objs } (j < es.length) := by
  intro ok h a w r hj
  obtain ⟨h2, h3⟩ := cellsV_sound h1 (ev_sound rfl r hz)
  have hcd := allD_spec hds
  have e1 := ev_sound rfl r hy
  generalize hv : a.eval y = v at e1
  cases e1 with
  | el _ _ _ b hb =>
    obtain ⟨hsz, hcm, h5⟩ := r.mem.obj id _ hl
    rcases h5 with ⟨h6, _⟩ | ⟨b', cur, fz, h4, h5, hth, hgz, hcap, hcs, h7⟩
    · rw [h6] at hb; cases hb
    obtain rfl : b' = b := by rw [h4] at hb; exact Option.some.inj hb
    have hbound : (j + 1) * sz ≤ (h id).cap * sz := Nat.mul_le_mul_right _ (by omega)
    rw [Nat.add_mul] at hbound
    obtain ⟨w', hr, g, hs, cur', h8, h9, h10⟩ := run_storeCells_row (P := C.P) b' e fz (a.eval z).cells.toList (j * sz + off) cur w h5 (by simp; omega) hth (fun u hu => by
      obtain ⟨k, hk⟩ := List.mem_iff_getElem?.1 hu
      have hk' : (a.eval z).cells[k]? = some u := by simpa using hk
      have hkl : k < (cellsV x).length := by rw [← h2]; exact (Array.getElem?_eq_some_iff.1 hk').1
      obtain ⟨u', h11, _, h12⟩ := h3 k _ (List.getElem?_eq_getElem hkl)
      rw [hk'] at h11; cases h11; exact h12) (j * sz + off) 0 rfl
    have hokb : ∀ k, ok k → w'.heap[k]? = w.heap[k]? := fun k hk => g.block k (r.mem.okb k hk).1 (fun e => by cases e; exact (r.mem.blk id _ b' hl h4).2.1 hk)
    have hvs : (a.eval z).cells.toList.length = n := by simp; omega
    have hdl : ds.length = n := by rw [hcd] at hlen; simpa using hlen
    refine ⟨.skip, w', ok, h, ?_, undef, .inr ⟨rfl, rfl⟩, ?_⟩
    · simp [execOp, ho, hv, hsz, run_storeAt hn (by omega : (a.eval z).cells.size = n), hr]
    · rw [hdst]
      refine ⟨r.mem.write hl h4 g hs ⟨hsz, hcm, .inr ⟨b', cur', fz, h4, h8, by rw [h9]; exact hth, hgz, by simp; exact hcap, by rw [h9]; exact hcs, fun i l hi => ?_⟩⟩, r.defers, r.nt, r.pin, fun i u hu => ?_⟩
      · by_cases hij : i = j
        · subst hij
          rw [List.getElem?_set_self hj] at hi
          cases hi
          have hrow : es[i]? = some (es.getD i gr.2) := by simp [List.getD, List.getElem?_eq_getElem hj]
          obtain ⟨hrl, hrc⟩ := h7 i _ hrow
          generalize es.getD i gr.2 = row at hrl hrc ⊢
          refine ⟨by simp only [List.length_append, List.length_take, List.length_drop]; omega, fun k d hk => ?_⟩
          rw [h10]
          by_cases hk1 : k < off
          · rw [if_neg (by omega)]
            rw [List.append_assoc, List.getElem?_append_left (by simp; omega), List.getElem?_take, if_pos hk1] at hk
            obtain ⟨v, h11, h12⟩ := hrc k d hk
            exact ⟨v, h11, h12.mono hokb fun _ hb => hb⟩
          · by_cases hk2 : k < off + n
            · rw [if_pos (by omega)]
              rw [List.append_assoc, List.getElem?_append_right (by simp; omega), List.getElem?_append_left (by simp; omega)] at hk
              simp only [List.length_take] at hk
              rw [Nat.min_eq_left (by omega)] at hk
              obtain ⟨v, h11, h12, _⟩ := h3 (k - off) (.d d) (by rw [hcd]; simp [hk])
              refine ⟨v, ?_, ?_⟩
              · rw [show i * sz + k - (i * sz + off) = k - off by omega]
                simpa using h11
              · cases h12 with | d _ _ h => exact h.mono hokb fun _ hb => hb
            · rw [if_neg (by omega)]
              rw [List.append_assoc, List.getElem?_append_right (by simp; omega), List.getElem?_append_right (by simp; omega), List.getElem?_drop] at hk
              simp only [List.length_take] at hk
              rw [Nat.min_eq_left (by omega), hdl, show off + n + (k - off - n) = k by omega] at hk
              obtain ⟨v, h11, h12⟩ := hrc k d hk
              exact ⟨v, h11, h12.mono hokb fun _ hb => hb⟩
        · rw [List.getElem?_set_ne (fun e => hij e.symm)] at hi
          obtain ⟨hrl, hrc⟩ := h7 i l hi
          refine ⟨hrl, fun k d hk => ?_⟩
          obtain ⟨v, h11, h12⟩ := hrc k d hk
          have hkl : k < sz := by rw [← hrl]; exact (List.getElem?_eq_some_iff.1 hk).1
          refine ⟨v, ?_, h12.mono hokb fun _ hb => hb⟩
          rw [h10, if_neg ?_]
          · exact h11
          · intro ⟨ha, hb'⟩
            rcases Nat.lt_or_gt_of_ne hij with hlt | hgt
            · have : (i + 1) * sz ≤ j * sz := Nat.mul_le_mul_right _ (by omega)
              rw [Nat.add_mul] at this
              omega
            · have : (j + 1) * sz ≤ i * sz := Nat.mul_le_mul_right _ (by omega)
              rw [Nat.add_mul] at this
              omega
      · obtain ⟨h11, v, h12, h13⟩ := r.slot i u hu
        exact ⟨h11, v, h12, h13.mono hokb fun _ hb => hb⟩

/-- A string's bytes, in a row of one's own. -/
theorem does_bytes {nt : Nat} (hnt : nt = C.nt) (hc : CtxOk C) {s t : TypeId} {y : Operand} {d : Tmp} {l : ByteArray} {e : TypeId} {z : List D} (ho : o.op = .convert s t y) (hdst : o.dst = some d) (hs : eStr C.P s = true) (ht : bytesB C.P t = true) (hte : eElem C.P t = some (e, 1))
    (hy : ev true st y = some (.d (.lit (.string l)))) (hf : freshB d st = true) (hd : d < nt) :
    Does C o st { slots := place d (.os d l.size) st.slots, objs := place d (.own e 1 (false, z) (l.data.toList.map byteRow)) st.objs } (l.size ≤ 9223372036854775807) := by
  intro ok h a w r hm
  have e1 := lit_of (ev_sound rfl r hy)
  obtain ⟨e', h1, h2, _⟩ := bytesB_spec ht
  obtain ⟨h1', _⟩ := eElem_spec hte
  obtain rfl : e' = e := by rw [h1] at h1'; cases h1'; rfl
  have hmax : l.size ≤ maxLen := by simp only [maxLen]; omega
  have hge := grownCap_ge w l.size 0 e'
  have hle := grownCap_le_maxLen w l.size 0 e' hmax
  have hid : d < 100000 := Nat.lt_of_lt_of_le hd (by rw [hnt]; have := hc.nt; omega)
  have hlt := hc.lt
  have hcs : (Lib.bytesCells w e' l).size = grownCap w l.size 0 e' := by
    simp only [Lib.bytesCells, Array.size_append, Array.size_map, Array.size_replicate, ByteArray.size] at hge ⊢
    omega
  have hsz := Lib.bytesWorld_size w e' l
  have hold : ∀ k, k < w.heap.size → (Lib.bytesWorld w e' l).heap[k]? = w.heap[k]? := fun k hk => Lib.bytesWorld_at_old w e' l k hk
  have hg : w.grownBy (Lib.bytesWorld w e' l) none := ⟨rfl, rfl, rfl, by omega, fun k hk _ => hold k hk⟩
  have hrow : RdO (Lib.bytesWorld w e' l) ok (upd h d ⟨some w.heap.size, grownCap w l.size 0 e', 1⟩) d (.own e' 1 (false, z) (l.data.toList.map byteRow)) := by
    refine ⟨by rw [upd_same], by rw [upd_same]; exact hle, .inr ⟨w.heap.size, Lib.bytesCells w e' l, _, by rw [upd_same], Lib.bytesWorld_at_new w e' l, (fun o ho hx => by omega), (fun hx => by cases hx), (by rw [upd_same, List.length_map, Array.length_toList]; exact hge), (by rw [upd_same, hcs]; simp), fun i row hi => ?_⟩⟩
    rw [List.getElem?_map] at hi
    obtain ⟨b, hb, hbr⟩ := Option.map_eq_some_iff.1 hi
    subst hbr
    refine ⟨rfl, fun k x hk => ?_⟩
    cases k with
    | succ k => simp [byteRow] at hk
    | zero =>
      cases hk
      refine ⟨.int .u8 (b.toNat : Int), ?_, .lit _⟩
      have hil : i < l.data.size := by have := (List.getElem?_eq_some_iff.1 hb).1; simpa using this
      simp only [Lib.bytesCells]
      rw [Array.getElem?_append_left (by rw [Array.size_map]; omega)]
      have hb' : l.data[i]? = some b := by simpa using hb
      simp [hb']
  refine ⟨.value (.slice (some ⟨w.heap.size, 0, none⟩) l.size (grownCap w l.size 0 e')), Lib.bytesWorld w e' l, ok, upd h d ⟨some w.heap.size, grownCap w l.size 0 e', 1⟩, ?_, .slice (some ⟨w.heap.size, 0, none⟩) l.size (grownCap w l.size 0 e'), .inl rfl, ?_⟩
  · simp only [execOp, ho, e1, Sem.run_bind]
    rw [Lib.run_convert_string_bytes w s t e' l (eStr_spec hs) h1 h2]
    rfl
  · have hmem := r.mem.step (w' := Lib.bytesWorld w e' l) d ⟨some w.heap.size, grownCap w l.size 0 e', 1⟩ _ none hg (fun b hb => by cases hb) (fun b hb => .inr (by cases hb; exact ⟨Nat.le_refl _, by omega⟩)) (fun j o hj hl => fresh_obj hf hj hl) hrow hlt
    have hrep : Rep C { st with objs := place d (.own e' 1 (false, z) (l.data.toList.map byteRow)) st.objs } ok (upd h d ⟨some w.heap.size, grownCap w l.size 0 e', 1⟩) a (Lib.bytesWorld w e' l) :=
      ⟨hmem, r.defers, r.nt, fun j hj => (upd_ne h d _ j (fun e => Nat.lt_irrefl _ (Nat.lt_of_le_of_lt (e ▸ hj) hid))).trans (r.pin j hj), fun j x hx => by
        obtain ⟨h7, u, h8, h9⟩ := r.slot j x hx
        exact ⟨h7, u, h8, (h9.mono (fun b hb => hold b (r.mem.okb b hb).1) fun _ hb => hb).swap (upd_ne h d _) (fresh_slot hf hx)⟩⟩
    rw [hdst]
    have hos : RdV (Lib.bytesWorld w e' l) ok (upd h d ⟨some w.heap.size, grownCap w l.size 0 e', 1⟩) (.os d l.size) (.slice (some ⟨w.heap.size, 0, none⟩) l.size (grownCap w l.size 0 e')) := by
      have := RdV.os (w := Lib.bytesWorld w e' l) (ok := ok) (h := upd h d ⟨some w.heap.size, grownCap w l.size 0 e', 1⟩) d l.size (by rw [upd_same]; exact hge)
      rw [upd_same] at this
      exact this
    exact hrep.put (d := some d) (fun u hu => by rw [← Option.some.inj hu, ← hnt]; exact hd) hos
/-- A literal's row of bytes, marked. -/
theorem does_mark {nt : Nat} (hnt : nt = C.nt) (hc : CtxOk C) {t : TypeId} {y : Operand} {d : Tmp} {id n : Nat} {e : TypeId} {sz : Nat} {gr : Bool × List D} {es : List (List D)} (ho : o.op = .convert t t y) (hdst : o.dst = some d) (ht : bytesB C.P t = true)
    (hy : ev true st y = some (.os id n)) (hl : look id st.objs = some (.own e sz gr es)) (hgr : gr.1 = true) (hd : d < nt) :
    Does C o st { slots := place d (.os id n) st.slots, objs := place id (.own e sz (false, gr.2) es) st.objs } (es ≠ []) := by
  intro ok h a w r hne
  have e1 := ev_sound rfl r hy
  obtain ⟨e', h1, h2, _⟩ := bytesB_spec ht
  generalize hv : a.eval y = v at e1
  cases e1 with
  | os _ _ hcap =>
    obtain ⟨hsz, hcm, h5⟩ := r.mem.obj id _ hl
    rcases h5 with ⟨_, h6, _⟩ | ⟨b', cur, fz, h4, h5, hth, hgz, hcap', hcs, h7⟩
    · exact absurd h6 hne
    have hsh : w.shape? b' = some (e, cur.size) := by simp [World.shape?, h5]
    obtain rfl := hgz hgr
    have hlt : b' < w.heap.size := (Array.getElem?_eq_some_iff.1 h5).1
    have hfz : (w.freeze ⟨b', cur.size, none⟩ 1).heap[b']? = some (.cells cur e (cur.size, cur.size + 1)) := by
      simp only [World.freeze, if_neg (show ¬ 1 = 0 by decide), Array.getElem?_modify, if_pos, h5, Option.map_some]
      rfl
    have hfo : ∀ k, k ≠ b' → (w.freeze ⟨b', cur.size, none⟩ 1).heap[k]? = w.heap[k]? := fun k hk => by
      simp only [World.freeze, if_neg (show ¬ 1 = 0 by decide), Array.getElem?_modify, if_neg (fun e : b' = k => hk e.symm)]
    have hfs : (w.freeze ⟨b', cur.size, none⟩ 1).heap.size = w.heap.size := by simp [World.freeze]
    have hg : w.grownBy (w.freeze ⟨b', cur.size, none⟩ 1) (some b') := ⟨rfl, rfl, rfl, by omega, fun k _ hk => hfo k fun e => hk (by rw [e])⟩
    have hokb : ∀ k, ok k → (w.freeze ⟨b', cur.size, none⟩ 1).heap[k]? = w.heap[k]? := fun k hk => hfo k fun e => (r.mem.blk id _ b' hl h4).2.1 (e ▸ hk)
    refine ⟨.value (.slice (h id).addr n (h id).cap), w.freeze ⟨b', cur.size, none⟩ 1, ok, h, ?_, .slice (h id).addr n (h id).cap, .inl rfl, ?_⟩
    · simp [execOp, ho, hv, convert, run_underlying h1, run_underlying h2, Hd.addr, h4, markStringish, hsh]
    · rw [hdst]
      refine Rep.put (st := { st with objs := place id (.own e sz (false, gr.2) es) st.objs }) (d := some d) ⟨r.mem.write hl h4 hg hfs ⟨hsz, hcm, .inr ⟨b', cur, _, h4, hfz, (fun o ho hx => by omega), (fun hx => by cases hx), hcap', hcs, fun i l hi => ?_⟩⟩, r.defers, r.nt, r.pin, fun i u hu => ?_⟩ (fun u hu => by rw [← Option.some.inj hu, ← hnt]; exact hd) (.os id n hcap)
      · obtain ⟨h8, h9⟩ := h7 i l hi
        exact ⟨h8, fun k x hk => let ⟨v, h10, h11⟩ := h9 k x hk; ⟨v, h10, h11.mono hokb fun _ hb => hb⟩⟩
      · obtain ⟨h11, v, h12, h13⟩ := r.slot i u hu
        exact ⟨h11, v, h12, h13.mono hokb fun _ hb => hb⟩

/-! Iterating a string. -/
theorem does_range {nt : Nat} (hnt : nt = C.nt) (hc : CtxOk C) {t : TypeId} {y : Operand} {d : Tmp} {s : ByteArray} (ho : o.op = .range t y) (hdst : o.dst = some d) (ht : eStr C.P t = true) (hy : ev true st y = some (.d (.lit (.string s)))) (hf : freshB d st = true) (hd : d < nt) :
    Does C o st { slots := place d (.bp d 0) st.slots, objs := place d (.raw (.stringIter s 0)) st.objs } True := by
  intro ok h a w r _
  have e1 := lit_of (ev_sound rfl r hy)
  have hid : d < 100000 := Nat.lt_of_lt_of_le hd (by rw [hnt]; have := hc.nt; omega)
  have rn := r.new hc.lt hid hf ⟨some w.heap.size, 0, 0⟩ (.raw (.stringIter s 0)) (.stringIter s 0) rfl ⟨w.heap.size, by rw [upd_same], by show (w.heap.push _)[w.heap.size]? = _; simp⟩
  refine ⟨.value (.pointer (some ⟨w.heap.size, 0, none⟩)), w.alloc (.stringIter s 0), ok, upd h d ⟨some w.heap.size, 0, 0⟩, ?_, _, .inl rfl, ?_⟩
  · simp only [execOp, ho, e1, Sem.run_bind, run_range_string w t s (eStr_spec ht)]
    rfl
  · rw [hdst]
    exact rn.put (d := some d) (fun u hu => by rw [← Option.some.inj hu, ← hnt]; exact hd) (.bp d 0 w.heap.size (by rw [upd_same]))
/-- A nil slice is a slice of one's own, without elements. -/
def birthS (s id e : Nat) (z : List D) (st : St) : Option St :=
  match look s st.slots with
  | some (.d (.lit (.slice none 0 0))) => if freshB id st && (look id st.objs).isNone && decide (id < 100000) then some { slots := place s (.os id 0) st.slots, objs := place id (.own e z.length (true, z) []) st.objs } else none
  | _ => none
def birthC (b k id e : Nat) (z : List D) (st : St) : Option St :=
  match look b st.objs with
  | some (.box t cells) => match cells[k]? with
    | some (.d (.lit (.slice none 0 0))) => if freshB id st && (look id st.objs).isNone && decide (id < 100000) then some { slots := st.slots, objs := place id (.own e z.length (true, z) []) (place b (.box t (cells.set k (.os id 0))) st.objs) } else none
    | _ => none
  | _ => none

theorem Rep.birth (r : Rep C st ok h a w) {id e sz : Nat} {z : List D} (hf : freshB id st = true) (hnone : look id st.objs = none) (hid : id < 100000) : Rep C { st with objs := place id (.own e sz (true, z) []) st.objs } ok (upd h id ⟨none, 0, sz⟩) a w := by
  have hobj : ∀ j o, look j (place id (O.own e sz (true, z) []) st.objs) = some o → (id = j ∧ o = .own e sz (true, z) []) ∨ (j ≠ id ∧ look j st.objs = some o) := fun j o hj => by
    rw [look_place] at hj
    split at hj
    · rename_i e'; exact .inl ⟨e', (Option.some.inj hj).symm⟩
    · rename_i e'; exact .inr ⟨fun e1 => e' e1.symm, hj⟩
  have hm := r.mem
  refine ⟨⟨hm.os, hm.tape, hm.output, hm.size, hm.block, hm.okb, fun j o hj => ?_, fun j o b hj hb => ?_, fun j j' o o' b hj hj' hne hb => ?_⟩, r.defers, r.nt, fun j hj => (upd_ne h id _ j (by omega)).trans (r.pin j hj), fun j x hx => ?_⟩
  · rcases hobj j o hj with ⟨rfl, rfl⟩ | ⟨hne, hj⟩
    · exact ⟨by rw [upd_same], by rw [upd_same]; simp, .inl ⟨by rw [upd_same], rfl, by rw [upd_same]⟩⟩
    · exact (hm.obj j o hj).swap (upd_ne h id _) hne (fresh_obj hf hne hj)
  · rcases hobj j o hj with ⟨rfl, rfl⟩ | ⟨hne, hj⟩
    · rw [upd_same] at hb; cases hb
    · rw [upd_ne h id _ j hne] at hb
      exact hm.blk j o b hj hb
  · rcases hobj j o hj with ⟨rfl, rfl⟩ | ⟨hne1, hj⟩
    · rw [upd_same] at hb; cases hb
    · rw [upd_ne h id _ j hne1] at hb
      rcases hobj j' o' hj' with ⟨rfl, rfl⟩ | ⟨hne2, hj'⟩
      · rw [upd_same]; intro hx; cases hx
      · rw [upd_ne h id _ j' hne2]
        exact hm.apart j j' o o' b hj hj' hne hb
  · obtain ⟨h1, v, h2, h3⟩ := r.slot j x hx
    exact ⟨h1, v, h2, h3.swap (upd_ne h id _) (fresh_slot hf hx)⟩

theorem does_append_nil {nt : Nat} (hnt : nt = C.nt) (hc : CtxOk C) {t tx e sz by_ : Nat} {zs : List Value} {y z : Operand} {news : List (List D)} {d : Tmp} (ho : o.op = .call { callee := .builtin .append, args := #[y, z], argTypes := #[t, tx] })
    (hdst : o.dst = some d) (he : eElem C.P t = some (e, sz)) (hb : eBytes C.P e = some by_) (hz : eZero C.P e = some zs) (hzs : zs.length = sz) (h0 : 0 < sz) (hy : ev true st y = some (.d (.lit (.slice none 0 0)))) (hf : freshB d st = true) (hnone : (look d st.objs).isNone = true)
    (hsrc : srcE C.P (place d (.own e sz (true, zs.map D.lit) []) st.objs) tx sz (ev true st z) = some (news, p)) (hd : d < nt) :
    Does C o st { slots := place d (.os d (0 + news.length)) (hushS d st.slots), objs := place d (.own e sz (true, zs.map D.lit) ([] ++ news)) (hushL d (place d (.own e sz (true, zs.map D.lit) []) st.objs)) }
      (p ∧ 0 + news.length ≤ 9223372036854775807 ∧ (0 + news.length) * by_ ≤ 140737488355328) := by
  intro ok h a w r ⟨h1, h2, h3⟩
  have hd5 : d < 100000 := Nat.lt_of_lt_of_le hd (by rw [hnt]; have := hc.nt; omega)
  have rb := r.birth (e := e) (sz := sz) (z := zs.map D.lit) hf (by simpa using hnone) hd5
  have e1 := lit_of (ev_sound rfl r hy)
  have hos : RdV w ok (upd h d ⟨none, 0, sz⟩) (.os d 0) (a.eval y) := by
    rw [e1]
    have := RdV.os (w := w) (ok := ok) (h := upd h d ⟨none, 0, sz⟩) d 0 (Nat.zero_le _)
    simpa [upd_same, Hd.addr] using this
  have := append_core (st := { st with objs := place d (.own e sz (true, zs.map D.lit) []) st.objs }) hc rb ho hdst he hb hz hzs h0 hos (by rw [look_place, if_pos rfl]) rfl hsrc hd5 (hnt ▸ hd) ⟨h1, by simp, h2, h3⟩
  simpa using this

theorem birthS_sound {s id e : Nat} {z : List D} (hb : birthS s id e z st = some st') (r : Rep C st ok h a w) : ∃ h', Rep C st' ok h' a w := by
  unfold birthS at hb
  split at hb
  · rename_i hs
    split at hb
    · rename_i hc
      simp only [Bool.and_eq_true, decide_eq_true_eq, Option.isNone_iff_eq_none] at hc
      cases hb
      have rb := r.birth (e := e) (sz := z.length) (z := z) hc.1.1 hc.1.2 hc.2
      refine ⟨_, rb.mem, rb.defers, rb.nt, rb.pin, fun j x hx => ?_⟩
      rw [look_place] at hx
      split at hx
      · rename_i e'
        subst e'; cases hx
        obtain ⟨h1, v, h2, h3⟩ := r.slot s _ hs
        have e1 := lit_of h3
        subst e1
        refine ⟨h1, _, h2, ?_⟩
        have := RdV.os (w := w) (ok := ok) (h := upd h id ⟨none, 0, z.length⟩) id 0 (Nat.zero_le _)
        simpa [upd_same, Hd.addr] using this
      · exact rb.slot j x hx
    · cases hb
  · cases hb

theorem birthC_sound {b k id e : Nat} {z : List D} (hb : birthC b k id e z st = some st') (r : Rep C st ok h a w) : ∃ h', Rep C st' ok h' a w := by
  unfold birthC at hb
  split at hb
  · rename_i t cells hl
    split at hb
    · rename_i hk
      split at hb
      · rename_i hc
        simp only [Bool.and_eq_true, decide_eq_true_eq, Option.isNone_iff_eq_none] at hc
        cases hb
        have hne : b ≠ id := fun e' => by rw [e', hc.1.2] at hl; cases hl
        have rb := r.birth (e := e) (sz := z.length) (z := z) hc.1.1 hc.1.2 hc.2
        have hm := rb.mem
        have hlk : ∀ j o, look j (place id (O.own e z.length (true, z) []) (place b (.box t (cells.set k (.os id 0))) st.objs)) = some o →
            (j = b ∧ o = .box t (cells.set k (.os id 0))) ∨ (j ≠ b ∧ look j (place id (O.own e z.length (true, z) []) st.objs) = some o) := fun j o hj => by
          rw [look_place] at hj
          split at hj
          · rename_i e'
            subst e'; cases hj
            exact .inr ⟨fun e' => hne e'.symm, by rw [look_place, if_pos rfl]⟩
          · rename_i e'
            rw [look_place] at hj
            split at hj
            · rename_i e2; subst e2; cases hj; exact .inl ⟨rfl, rfl⟩
            · rename_i e2
              exact .inr ⟨fun e3 => e2 e3.symm, by rw [look_place, if_neg e']; exact hj⟩
        have hbo : look b (place id (O.own e z.length (true, z) []) st.objs) = some (.box t cells) := by rw [look_place, if_neg (fun e' => hne e'.symm)]; exact hl
        have up : ∀ j o, look j (place id (O.own e z.length (true, z) []) (place b (.box t (cells.set k (.os id 0))) st.objs)) = some o → ∃ o', look j (place id (O.own e z.length (true, z) []) st.objs) = some o' := fun j o hj => by
          rcases hlk j o hj with ⟨rfl, _⟩ | ⟨_, h1⟩
          · exact ⟨_, hbo⟩
          · exact ⟨_, h1⟩
        refine ⟨upd h id ⟨none, 0, z.length⟩, ⟨hm.os, hm.tape, hm.output, hm.size, hm.block, hm.okb, fun j o hj => ?_, fun j o b' hj hb => ?_, fun j j' o o' b' hj hj' hne' hb => ?_⟩, rb.defers, rb.nt, rb.pin, rb.slot⟩
        · rcases hlk j o hj with ⟨rfl, rfl⟩ | ⟨_, h1⟩
          · obtain ⟨b', cs, h2, h3, h4, h5⟩ := hm.obj j _ hbo
            refine ⟨b', cs, h2, h3, by simp [h4], fun q x hq => ?_⟩
            by_cases hqk : q = k
            · subst hqk
              obtain ⟨v, h6, h7⟩ := h5 q _ hk
              rw [List.getElem?_set_self (List.getElem?_eq_some_iff.1 hk).1] at hq
              cases hq
              have e1 := lit_of h7
              subst e1
              refine ⟨_, h6, ?_⟩
              have := RdV.os (w := w) (ok := ok) (h := upd h id ⟨none, 0, z.length⟩) id 0 (Nat.zero_le _)
              simpa [upd_same, Hd.addr] using this
            · rw [List.getElem?_set_ne (fun e' => hqk e'.symm)] at hq
              exact h5 q x hq
          · exact hm.obj j o h1
        · obtain ⟨o', h1⟩ := up j o hj
          exact hm.blk j o' b' h1 hb
        · obtain ⟨o1, h1⟩ := up j o hj
          obtain ⟨o2, h2⟩ := up j' o' hj'
          exact hm.apart j j' o1 o2 b' h1 h2 hne' hb
      · cases hb
    · cases hb
  · cases hb
end
end Go.Lw
/-
  MAPS WHOSE KEYS ARE STRINGS, MADE AND WRITTEN, on list-level states.
-/
set_option linter.unusedSimpArgs false
set_option linter.unusedVariables false
namespace Go.Lw
open Go.RowKit

def dput : List (List UInt8 × D) → List UInt8 → D → List (List UInt8 × D)
  | [], k, d => [(k, d)]
  | (k', d') :: r, k, d => if k' = k then (k, d) :: r else (k', d') :: dput r k d
def dtouch (z : D) (L : List (List UInt8 × D)) (k : List UInt8) : List (List UInt8 × D) := bif dhas L k then L else L ++ [(k, z)]
def dset : List (List UInt8 × D) → Nat → D → List (List UInt8 × D)
  | [], _, _ => []
  | (k, _) :: r, 0, d => (k, d) :: r
  | p :: r, i + 1, d => p :: dset r i d
theorem dset_length : ∀ (L : List (List UInt8 × D)) (i : Nat) (d : D), (dset L i d).length = L.length
  | [], _, _ => rfl
  | (k, _) :: r, 0, d => rfl
  | p :: r, i + 1, d => by simp [dset, dset_length r i d]
theorem dset_get : ∀ (L : List (List UInt8 × D)) (i : Nat) (d : D) (j : Nat), (dset L i d)[j]? = if j = i then (L[j]?).map (fun p => (p.1, d)) else L[j]?
  | [], _, _, j => by simp [dset]
  | (k, _) :: r, 0, d, j => by
    cases j with
    | zero => simp [dset]
    | succ j => simp [dset]
  | p :: r, i + 1, d, j => by
    cases j with
    | zero => simp [dset]
    | succ j => simp [dset, dset_get r i d j]
theorem dput_new : ∀ {L : List (List UInt8 × D)} {k : List UInt8} {d : D}, dhas L k = false → dput L k d = L ++ [(k, d)]
  | [], _, _, _ => rfl
  | (k', d') :: r, k, d, h => by
    simp only [dhas] at h
    split at h
    · cases h
    · rename_i hk
      simp only [dput, if_neg hk, List.cons_append, dput_new h]
theorem dput_old : ∀ {L : List (List UInt8 × D)} {k : List UInt8} {d : D}, dhas L k = true → dput L k d = dset L (didx L k) d
  | [], _, _, h => by cases h
  | (k', d') :: r, k, d, h => by
    simp only [dhas] at h
    split at h
    · rename_i hk
      subst hk
      simp [dput, didx, dset]
    · rename_i hk
      simp only [dput, didx, if_neg hk, dset, dput_old h]
theorem didx_new : ∀ {L : List (List UInt8 × D)} {k : List UInt8}, dhas L k = false → didx L k = L.length
  | [], _, _ => rfl
  | (k', d') :: r, k, h => by
    simp only [dhas] at h
    split at h
    · cases h
    · rename_i hk
      simp only [didx, if_neg hk, List.length_cons, didx_new h]
theorem didx_lt : ∀ {L : List (List UInt8 × D)} {k : List UInt8}, dhas L k = true → didx L k < L.length
  | [], _, h => by cases h
  | (k', d') :: r, k, h => by
    simp only [dhas] at h
    split at h
    · rename_i hk; simp [didx, hk]
    · rename_i hk
      have := didx_lt h
      simp only [didx, if_neg hk, List.length_cons]
      omega
theorem dset_append : ∀ (L : List (List UInt8 × D)) (p : List UInt8 × D) (d : D), dset (L ++ [p]) L.length d = L ++ [(p.1, d)]
  | [], p, d => rfl
  | q :: L, p, d => by simp [dset, dset_append L p d]
@[simp] theorem dset_dtouch (z : D) (L : List (List UInt8 × D)) (k : List UInt8) (d : D) : dset (dtouch z L k) (didx L k) d = dput L k d := by
  unfold dtouch
  cases h : dhas L k with
  | true => simp only [cond_true]; rw [dput_old h]
  | false => simp only [cond_false]; rw [dput_new h, didx_new h, dset_append]
@[simp] theorem didx_dtouch (z : D) (L : List (List UInt8 × D)) (k : List UInt8) : didx L k < (dtouch z L k).length := by
  unfold dtouch
  cases h : dhas L k with
  | true => exact didx_lt h
  | false => simp [didx_new h]
def dstX (nt : Nat) : Option Tmp → Bool
  | none => true
  | some t => decide (t < nt)
def memX (P : Program) (nt : Nat) (o : Oper) (st : St) : Option (St × Prop) :=
  match o.op, o.dst with
  | .makeMap t none, some d => match eMapS P t with
    | some _ => if freshB d st && decide (d < nt) then some ({ slots := place d (.mp d) st.slots, objs := place d (.dict []) st.objs }, True) else none
    | none => none
  | .mapUpdate t m k x, none => match ev true st m, ev true st k, ev true st x with
    | some (.mp id), some (.d (.lit (.string s))), some (.d v) => match look id st.objs, eMapS P t with
      | some (.dict L), some _ => some ({ st with objs := place id (.dict (dput L s.data.toList v)) st.objs }, True)
      | _, _ => none
    | _, _, _ => none
  | .mapEntry t m k, some d => match ev true st m, ev true st k with
    | some (.mp id), some (.d (.lit (.string s))) => match look id st.objs, (eMapS P t).bind (eZeroV P) with
      | some (.dict L), some z => if d < nt then some ({ slots := place d (.d (.tup [dget (.lit z) L s.data.toList, .lit (.int .i64 (didx L s.data.toList))])) st.slots, objs := place id (.dict (dtouch (.lit z) L s.data.toList)) st.objs }, True) else none
      | _, _ => none
    | _, _ => none
  | .entryStore _ m i x, none => match ev true st m, ev true st i, ev true st x with
    | some (.mp id), some (.d (.lit (.int _ n))), some (.d v) => match look id st.objs with
      | some (.dict L) => some ({ st with objs := place id (.dict (dset L n.toNat v)) st.objs }, 0 ≤ n ∧ n.toNat < L.length)
      | _ => none
    | _, _, _ => none
  | .call c, _ => match c.callee, c.args.toList, c.argTypes.toList with
    | .builtin .clear, [y], [t] => match ev true st y, eElem P t with
      | some (.ot id lo n), some (e, sz) => match look id st.objs, eZero P e with
        | some (.own e' sz' gr es), some zs => if e' = e ∧ sz' = sz ∧ zs.length = sz ∧ 0 < sz ∧ zs.all (fun z => z.oneCell') = true ∧ dstX nt o.dst = true then
            some ({ slots := (match o.dst with | some d => place d (.d (.tup [])) st.slots | none => st.slots), objs := place id (.own e sz gr (es.take lo ++ List.replicate n (zs.map D.lit) ++ es.drop (lo + n))) st.objs }, lo + n ≤ es.length) else none
        | _, _ => none
      | _, _ => none
    | .builtin .append, [y, z], [t, tx] => match o.dst, ev true st y, ev true st z, eElem P t, eElem P tx with
      | some d, some (.os id n), some (.ot id2 lo m), some (e, sz), some _ => match look id st.objs with
        | some (.own e' sz' gr es) => if id2 = id ∧ e' = e ∧ sz' = sz ∧ 0 < sz ∧ d < nt then
            some ({ slots := place d (.os id (n + m)) st.slots, objs := place id (.own e sz gr (es.take n ++ (es.drop lo).take m ++ es.drop (n + m))) st.objs }, lo + m ≤ es.length ∧ n + m ≤ es.length ∧ rowsOk sz es) else none
        | _ => none
      | some d, some (.d (.lit (.slice none 0 0))), some (.d (.lit (.int _ n))), some (e, sz), none => match P.underlying tx, eBytes P e, eZero P e with
        | some (.int _), some b, some zs => if zs.length = sz ∧ 0 < sz ∧ freshB d st = true ∧ d < nt then
            some ({ slots := place d (.os d n.toNat) st.slots, objs := place d (.own e sz (true, zs.map D.lit) (List.replicate n.toNat (zs.map D.lit))) st.objs }, 0 < n ∧ (b : Int) * n ≤ 281474976710656 ∧ n ≤ 9223372036854775807) else none
        | _, _, _ => none
      | _, _, _, _, _ => none
    | _, _, _ => none
  | _, _ => none

section
variable {C : Ctx} {st st' : St} {ok : Nat → Prop} {h : Nat → Hd} {a : Act} {w w' : World} {o : Oper} {x : V} {p : Prop}

theorem Rep.dict (r : Rep C st ok h a w) {id b n : Nat} {L L' : List (List UInt8 × D)} {es es' : Array MapEntry} (hl : look id st.objs = some (.dict L)) (hb : (h id).blk = some b) (hw : w.heap[b]? = some (.map es n))
    (hsz : es'.size = L'.length) (hrd : ∀ (i : Nat) (k : List UInt8) (d : D), L'[i]? = some (k, d) → ∃ v, es'[i]? = some ⟨.string ⟨⟨k⟩⟩, v, i⟩ ∧ RdD w ok d v) :
    Rep C { st with objs := place id (.dict L') st.objs } ok h a { w with heap := w.heap.setIfInBounds b (.map es' L'.length) } := by
  have hlt : b < w.heap.size := (Array.getElem?_eq_some_iff.1 hw).1
  let w' : World := { w with heap := w.heap.setIfInBounds b (.map es' L'.length) }
  have hs : w'.heap.size = w.heap.size := by simp [w']
  have hne : ∀ k, k ≠ b → w'.heap[k]? = w.heap[k]? := fun k hk => by
    simp only [w', Array.getElem?_setIfInBounds, if_neg (fun e : b = k => hk e.symm)]
  have hat : w'.heap[b]? = some (.map es' L'.length) := by simp [w', Array.getElem?_setIfInBounds, hlt]
  have hg : w.grownBy w' (some b) := ⟨rfl, rfl, rfl, by omega, fun k _ hk => hne k fun e => hk (by rw [e])⟩
  have hokb : ∀ k, ok k → w'.heap[k]? = w.heap[k]? := fun k hk => hne k fun e => (r.mem.blk id _ b hl hb).2.1 (e ▸ hk)
  refine ⟨r.mem.write hl hb hg hs ⟨b, es', hb, hat, hsz, fun i k d hi => ?_⟩, r.defers, r.nt, r.pin, fun i u hu => ?_⟩
  · obtain ⟨v, h1, h2⟩ := hrd i k d hi
    exact ⟨v, h1, h2.mono hokb fun _ hb => hb⟩
  · obtain ⟨h11, v, h12, h13⟩ := r.slot i u hu
    exact ⟨h11, v, h12, h13.mono hokb fun _ hb => hb⟩

theorem does_makeMap {nt : Nat} (hnt : nt = C.nt) (hc : CtxOk C) {t : TypeId} {d : Tmp} (ho : o.op = .makeMap t none) (hdst : o.dst = some d) (hf : freshB d st = true) (hd : d < nt) :
    Does C o st { slots := place d (.mp d) st.slots, objs := place d (.dict []) st.objs } True := by
  intro ok h a w r _
  have hid : d < 100000 := Nat.lt_of_lt_of_le hd (by rw [hnt]; have := hc.nt; omega)
  have rn := r.new hc.lt hid hf ⟨some w.heap.size, 0, 0⟩ (.dict []) (.map #[] 0) rfl ⟨w.heap.size, #[], by rw [upd_same], by show (w.heap.push _)[w.heap.size]? = _; simp, rfl, fun i k d hi => by simp at hi⟩
  refine ⟨.value (.map (some w.heap.size)), w.alloc (.map #[] 0), ok, upd h d ⟨some w.heap.size, 0, 0⟩, ?_, _, .inl rfl, ?_⟩
  · simp [execOp, ho, Instr.makeMap, newObj, Sem.run, Result.andThen]
  · rw [hdst]
    exact rn.put (d := some d) (fun u hu => by rw [← Option.some.inj hu, ← hnt]; exact hd) (.mp d w.heap.size (by rw [upd_same]))

theorem dictRd {L : List (List UInt8 × D)} {es : Array MapEntry} (hsz : es.size = L.length) (hrd : ∀ (i : Nat) (k : List UInt8) (d : D), L[i]? = some (k, d) → ∃ v, es[i]? = some ⟨.string ⟨⟨k⟩⟩, v, i⟩ ∧ RdD w ok d v) : DictRd w ok L es.toList :=
  ⟨by simpa using hsz, fun i k d hi => by
    obtain ⟨v, hv1, hv2⟩ := hrd i k d hi
    exact ⟨v, i, by simpa using hv1, hv2⟩⟩
theorem dict_push {L : List (List UInt8 × D)} {es : Array MapEntry} {s : ByteArray} {d : D} {u : Value} (hsz : es.size = L.length) (hrd : ∀ (i : Nat) (k : List UInt8) (d : D), L[i]? = some (k, d) → ∃ v, es[i]? = some ⟨.string ⟨⟨k⟩⟩, v, i⟩ ∧ RdD w ok d v) (hu : RdD w ok d u) :
    (es.push { key := .string s, val := u, born := L.length }).size = (L ++ [(s.data.toList, d)]).length ∧ ∀ (i : Nat) (k : List UInt8) (d' : D), (L ++ [(s.data.toList, d)])[i]? = some (k, d') → ∃ v, (es.push { key := .string s, val := u, born := L.length })[i]? = some ⟨.string ⟨⟨k⟩⟩, v, i⟩ ∧ RdD w ok d' v := by
  refine ⟨by simp [hsz], fun i k d' hi => ?_⟩
  rw [Array.getElem?_push, hsz]
  by_cases h1 : i < L.length
  · rw [List.getElem?_append_left h1] at hi
    rw [if_neg (by omega)]
    exact hrd i k d' hi
  · rw [List.getElem?_append_right (by omega)] at hi
    have h2 : i - L.length = 0 := by
      rcases Nat.eq_zero_or_pos (i - L.length) with h | h
      · exact h
      · rw [List.getElem?_eq_none (by simp; omega)] at hi; cases hi
    rw [h2] at hi
    cases hi
    have h3 : i = L.length := by omega
    subst h3
    rw [if_pos rfl]
    exact ⟨u, rfl, hu⟩
theorem dict_modify {L : List (List UInt8 × D)} {es : Array MapEntry} {s : ByteArray} {j : Nat} {d d0 : D} {u : Value} (hsz : es.size = L.length) (hrd : ∀ (i : Nat) (k : List UInt8) (d : D), L[i]? = some (k, d) → ∃ v, es[i]? = some ⟨.string ⟨⟨k⟩⟩, v, i⟩ ∧ RdD w ok d v) (hj : L[j]? = some (s.data.toList, d0)) (hu : RdD w ok d u) :
    (es.modify j fun e => { e with key := .string s, val := u }).size = (dset L j d).length ∧ ∀ (i : Nat) (k : List UInt8) (d' : D), (dset L j d)[i]? = some (k, d') → ∃ v, (es.modify j fun e => { e with key := .string s, val := u })[i]? = some ⟨.string ⟨⟨k⟩⟩, v, i⟩ ∧ RdD w ok d' v := by
  refine ⟨by simp [hsz, dset_length], fun i k d' hi => ?_⟩
  rw [dset_get] at hi
  rw [Array.getElem?_modify]
  by_cases h1 : i = j
  · subst h1
    rw [if_pos rfl, hj] at hi
    cases hi
    obtain ⟨v, h2, h3⟩ := hrd i _ _ hj
    rw [if_pos rfl, h2]
    exact ⟨u, rfl, hu⟩
  · rw [if_neg h1] at hi
    rw [if_neg (Ne.symm h1)]
    exact hrd i k d' hi
theorem sameBits_str (s : ByteArray) : Instr.sameBits 10000 (.string s) (.string s) = true := by
  show (s == s) = true
  show (s.data == s.data) = true
  simp
theorem does_mapUpdate {t e : TypeId} {m k z : Operand} {id : Nat} {s : ByteArray} {v : D} {L : List (List UInt8 × D)} (ho : o.op = .mapUpdate t m k z) (hdst : o.dst = none) (hm : ev true st m = some (.mp id)) (hk : ev true st k = some (.d (.lit (.string s)))) (hz : ev true st z = some (.d v))
    (hl : look id st.objs = some (.dict L)) (he : eMapS C.P t = some e) : Does C o st { st with objs := place id (.dict (dput L s.data.toList v)) st.objs } True := by
  intro ok h a w r _
  obtain ⟨kt, hu, hkt⟩ := eMapS_spec he
  have e1 := ev_sound rfl r hm
  have e2 := lit_of (ev_sound rfl r hk)
  have e3 := ev_sound rfl r hz
  generalize hv : a.eval m = vm at e1
  generalize hvz : a.eval z = vz at e3
  cases e3 with
  | d _ _ e3 =>
  cases e1 with
  | mp _ b hb =>
    obtain ⟨b', es, h3, h4, h5, h6⟩ := r.mem.obj id _ hl
    obtain rfl : b' = b := Option.some.inj (h3.symm.trans hb)
    have hlt : b' < w.heap.size := (Array.getElem?_eq_some_iff.1 h4).1
    rcases dict_find s (dictRd h5 h6) 0 (.lit undef) with ⟨g1, g2, g3, g4⟩ | ⟨u, g1, g2, g3, g4, d, bn, g5, g6⟩
    · obtain ⟨k1, k2⟩ := dict_push (s := s) h5 h6 e3
      rw [dput_new g1]
      refine ⟨.skip, { w with heap := w.heap.setIfInBounds b' (.map (es.push { key := .string s, val := vz, born := L.length }) (L ++ [(s.data.toList, v)]).length) }, ok, h, ?_, undef, .inr ⟨rfl, rfl⟩, ?_⟩
      rotate_left
      · rw [hdst]
        exact r.dict hl h3 h4 k1 k2
      · have hnf : (Instr.findKey kt (.string s) es.toList).run C.P w = .ok none w := run_findStr hkt g4 w
        simp [execOp, ho, hv, e2, hvz, Instr.mapUpdate, run_underlying hu, getObj, setObj, Sem.run, h4, run_checkStr hkt, hnf, Result.andThen]
    · rw [Nat.zero_add] at g3
      obtain ⟨k1, k2⟩ := dict_modify (s := s) h5 h6 g5 e3
      rw [dput_old g1]
      refine ⟨.skip, { w with heap := w.heap.setIfInBounds b' (.map (es.modify (didx L s.data.toList) fun e => { e with key := .string s, val := vz }) (dset L (didx L s.data.toList) v).length) }, ok, h, ?_, undef, .inr ⟨rfl, rfl⟩, ?_⟩
      rotate_left
      · rw [hdst]
        exact r.dict hl h3 h4 k1 k2
      · have hnf : (Instr.findKey kt (.string s) es.toList).run C.P w = .ok (some (didx L s.data.toList, u)) w := run_findStr hkt g3 w
        have g6' : es[didx L s.data.toList]? = some ⟨.string s, u, bn⟩ := by simpa using g6
        simp [execOp, ho, hv, e2, hvz, Instr.mapUpdate, run_underlying hu, getObj, setObj, Sem.run, h4, run_checkStr hkt, hnf, g6', Instr.keyThatStays, sameBits_str, Result.andThen, dset_length]
theorem does_mapEntry {nt : Nat} (hnt : nt = C.nt) {t : TypeId} {m k : Operand} {id : Nat} {d : Tmp} {s : ByteArray} {z : Value} {L : List (List UInt8 × D)} (ho : o.op = .mapEntry t m k) (hdst : o.dst = some d) (hm : ev true st m = some (.mp id)) (hk : ev true st k = some (.d (.lit (.string s))))
    (hl : look id st.objs = some (.dict L)) (he : (eMapS C.P t).bind (eZeroV C.P) = some z) (hd : d < nt) :
    Does C o st { slots := place d (.d (.tup [dget (.lit z) L s.data.toList, .lit (.int .i64 (didx L s.data.toList))])) st.slots, objs := place id (.dict (dtouch (.lit z) L s.data.toList)) st.objs } True := by
  intro ok h a w r _
  obtain ⟨e, he1, he2⟩ := Option.bind_eq_some_iff.1 he
  obtain ⟨kt, hu, hkt⟩ := eMapS_spec he1
  have e1 := ev_sound rfl r hm
  have e2 := lit_of (ev_sound rfl r hk)
  generalize hv : a.eval m = vm at e1
  have two : ∀ {w1 : World} {d1 : D} {u1 : Value} {n : Int}, RdD w1 ok d1 u1 → RdV w1 ok h (.d (.tup [d1, .lit (.int .i64 n)])) (.tuple #[u1, .int .i64 n]) := fun {w1 d1 u1 n} h1 => .d _ _ (.tup _ _ (fun i => (#[u1, .int .i64 n])[i]?.getD undef) rfl (fun i hi => by
    match i, hi with
    | 0, _ => rfl
    | 1, _ => rfl) (fun i d hd => by
    match i, hd with
    | 0, hd => cases hd; exact h1
    | 1, hd => cases hd; exact .lit _))
  cases e1 with
  | mp _ b hb =>
    obtain ⟨b', es, h3, h4, h5, h6⟩ := r.mem.obj id _ hl
    obtain rfl : b' = b := Option.some.inj (h3.symm.trans hb)
    have hlt : b' < w.heap.size := (Array.getElem?_eq_some_iff.1 h4).1
    rcases dict_find s (dictRd h5 h6) 0 (.lit z) with ⟨g1, g2, g3, g4⟩ | ⟨u, g1, g2, g3, g4, d1, bn, g5, g6⟩
    · obtain ⟨k1, k2⟩ := dict_push (s := s) h5 h6 (.lit z)
      have hq : dtouch (.lit z) L s.data.toList = L ++ [(s.data.toList, .lit z)] := by unfold dtouch; rw [g1]; rfl
      rw [g2, g3, hq]
      refine ⟨.value (.tuple #[z, .int .i64 L.length]), { w with heap := w.heap.setIfInBounds b' (.map (es.push { key := .string s, val := z, born := L.length }) (L ++ [(s.data.toList, D.lit z)]).length) }, ok, h, ?_, _, .inl rfl, ?_⟩
      rotate_left
      · rw [hdst]
        exact (r.dict hl h3 h4 k1 k2).put (d := some d) (fun u hu => by rw [← Option.some.inj hu, ← hnt]; exact hd) (two (.lit z))
      · have hnf : (Instr.findKey kt (.string s) es.toList).run C.P w = .ok none w := run_findStr hkt g4 w
        simp [execOp, ho, hv, e2, Instr.mapEntry, run_underlying hu, getObj, setObj, Sem.run, h4, run_checkStr hkt, hnf, eZeroV_spec he2 w, Result.andThen, goInt]
    · rw [Nat.zero_add] at g3
      have hq : dtouch (.lit z) L s.data.toList = L := by unfold dtouch; rw [g1]; rfl
      have g6' : es[didx L s.data.toList]? = some ⟨.string s, u, bn⟩ := by simpa using g6
      obtain ⟨v1, k3, k4⟩ := h6 _ _ _ g5
      rw [g6'] at k3
      have hbn : bn = didx L s.data.toList := by cases k3; rfl
      subst hbn
      have hes : es.modify (didx L s.data.toList) (fun e => { e with key := .string s }) = es := by
        apply Array.ext_getElem?
        intro i
        rw [Array.getElem?_modify]
        split
        · rename_i e; subst e; rw [g6']; rfl
        · rfl
      have hww : { w with heap := w.heap.setIfInBounds b' (.map es L.length) } = w := by
        have hh : w.heap.setIfInBounds b' (.map es L.length) = w.heap := by
          apply Array.ext_getElem?
          intro i
          rw [Array.getElem?_setIfInBounds]
          split
          · rename_i e; subst e; exact h4.symm
          · rfl
        rw [hh]
      have r2 := r.dict hl h3 h4 h5 h6
      rw [hww] at r2
      rw [hq]
      refine ⟨.value (.tuple #[u, .int .i64 (didx L s.data.toList)]), w, ok, h, ?_, _, .inl rfl, ?_⟩
      · have hnf : (Instr.findKey kt (.string s) es.toList).run C.P w = .ok (some (didx L s.data.toList, u)) w := run_findStr hkt g3 w
        simp [execOp, ho, hv, e2, Instr.mapEntry, run_underlying hu, getObj, setObj, Sem.run, h4, run_checkStr hkt, hnf, g6', Instr.keyThatStays, sameBits_str, Result.andThen, goInt, hes, hww]
      · rw [hdst]
        exact r2.put (d := some d) (fun u hu => by rw [← Option.some.inj hu, ← hnt]; exact hd) (two g4)
theorem find_born {L : List (List UInt8 × D)} {es : Array MapEntry} (hsz : es.size = L.length) (hrd : ∀ (i : Nat) (k : List UInt8) (d : D), L[i]? = some (k, d) → ∃ v, es[i]? = some ⟨.string ⟨⟨k⟩⟩, v, i⟩ ∧ RdD w ok d v) {n : Int} (h0 : 0 ≤ n) (hn : n.toNat < L.length) :
    es.findIdx? (fun e => (e.born : Int) == n) = some n.toNat := by
  have at_ : ∀ i, i < es.size → ∃ k v, es[i]? = some ⟨k, v, i⟩ := fun i hi => by
    obtain ⟨v, h1, _⟩ := hrd i _ _ (List.getElem?_eq_getElem (by omega))
    exact ⟨_, v, h1⟩
  rw [Array.findIdx?_eq_some_iff_getElem]
  refine ⟨by omega, ?_, fun j hj => ?_⟩
  · obtain ⟨k, v, h1⟩ := at_ n.toNat (by omega)
    rw [Array.getElem?_eq_getElem (by omega)] at h1
    rw [Option.some.inj h1]
    simp
    omega
  · obtain ⟨k, v, h1⟩ := at_ j (by omega)
    rw [Array.getElem?_eq_getElem (by omega)] at h1
    rw [Option.some.inj h1]
    simp
    omega
theorem does_entryStore {t : TypeId} {m i z : Operand} {id : Nat} {kn : IntKind} {n : Int} {v : D} {L : List (List UInt8 × D)} (ho : o.op = .entryStore t m i z) (hdst : o.dst = none) (hm : ev true st m = some (.mp id)) (hi : ev true st i = some (.d (.lit (.int kn n)))) (hz : ev true st z = some (.d v))
    (hl : look id st.objs = some (.dict L)) : Does C o st { st with objs := place id (.dict (dset L n.toNat v)) st.objs } (0 ≤ n ∧ n.toNat < L.length) := by
  intro ok h a w r ⟨h0, hn⟩
  have e1 := ev_sound rfl r hm
  have e2 := lit_of (ev_sound rfl r hi)
  have e3 := ev_sound rfl r hz
  generalize hv : a.eval m = vm at e1
  generalize hvz : a.eval z = vz at e3
  cases e3 with
  | d _ _ e3 =>
  cases e1 with
  | mp _ b hb =>
    obtain ⟨b', es, h3, h4, h5, h6⟩ := r.mem.obj id _ hl
    obtain rfl : b' = b := Option.some.inj (h3.symm.trans hb)
    have hlt : b' < w.heap.size := (Array.getElem?_eq_some_iff.1 h4).1
    have hf := find_born h5 h6 h0 hn
    have k2 : (es.modify n.toNat fun e => { e with val := vz }).size = (dset L n.toNat v).length ∧ ∀ (i : Nat) (k : List UInt8) (d' : D), (dset L n.toNat v)[i]? = some (k, d') → ∃ v, (es.modify n.toNat fun e => { e with val := vz })[i]? = some ⟨.string ⟨⟨k⟩⟩, v, i⟩ ∧ RdD w ok d' v := by
      refine ⟨by simp [h5, dset_length], fun i k d' hi => ?_⟩
      rw [dset_get] at hi
      rw [Array.getElem?_modify]
      by_cases h1 : i = n.toNat
      · subst h1
        rw [if_pos rfl, List.getElem?_eq_getElem hn] at hi
        cases hi
        obtain ⟨u, h2, h3⟩ := h6 n.toNat _ _ (List.getElem?_eq_getElem hn)
        rw [if_pos rfl, h2]
        exact ⟨vz, rfl, e3⟩
      · rw [if_neg h1] at hi
        rw [if_neg (Ne.symm h1)]
        exact h6 i k d' hi
    refine ⟨.skip, { w with heap := w.heap.setIfInBounds b' (.map (es.modify n.toNat fun e => { e with val := vz }) (dset L n.toNat v).length) }, ok, h, ?_, undef, .inr ⟨rfl, rfl⟩, ?_⟩
    rotate_left
    · rw [hdst]
      exact r.dict hl h3 h4 k2.1 k2.2
    · simp [execOp, ho, hv, e2, hvz, Instr.entryStore, getObj, setObj, Sem.run, h4, asInt, asIntOf, hf, Result.andThen, dset_length]
/-! clear, at a part of an own slice. -/
theorem does_clear {nt : Nat} (hnt : nt = C.nt) {t e sz lo n id : Nat} {zs : List Value} {y : Operand} {gr : Bool × List D} {es : List (List D)} (ho : o.op = .call { callee := .builtin .clear, args := #[y], argTypes := #[t] }) (he : eElem C.P t = some (e, sz)) (hz : eZero C.P e = some zs) (hzs : zs.length = sz) (h0 : 0 < sz)
    (h1 : zs.all (fun z => z.oneCell') = true) (hy : ev true st y = some (.ot id lo n)) (hl : look id st.objs = some (.own e sz gr es)) (hd : dstX nt o.dst = true) :
    Does C o st { slots := (match o.dst with | some d => place d (.d (.tup [])) st.slots | none => st.slots), objs := place id (.own e sz gr (es.take lo ++ List.replicate n (zs.map D.lit) ++ es.drop (lo + n))) st.objs } (lo + n ≤ es.length) := by
  intro ok h a w r hp
  obtain ⟨hu, i, hi, hs⟩ := eElem_spec he
  obtain ⟨z, hzr, hzl⟩ := eZero_spec hz w
  have hzsz : z.cells.size = sz := by rw [← hzs, ← hzl]; simp
  have e1 := ev_sound rfl r hy
  generalize hv : a.eval y = v at e1
  have fin : ∀ w' o', Rep C { st with objs := place id o' st.objs } ok h a w' → Rep C { slots := (match o.dst with | some d => place d (.d (.tup [])) st.slots | none => st.slots), objs := place id o' st.objs } ok h (a.put o.dst (.tuple #[])) w' := fun w' o' r' => by
    cases hdst : o.dst with
    | none => exact r'
    | some d =>
      rw [hdst] at hd
      exact r'.put (d := some d) (fun u hu => by rw [← Option.some.inj hu, ← hnt]; simpa [dstX] using hd) (.d _ _ (.tup [] #[] (fun _ => undef) rfl (fun i hi => by simp at hi) (fun i d hd => by simp at hd)))
  have same : Rep C { st with objs := place id (.own e sz gr es) st.objs } ok h a w := by
    have lk : ∀ j o1, look j (place id (.own e sz gr es) st.objs) = some o1 → look j st.objs = some o1 := fun j o1 hj => by
      rw [look_place] at hj
      split at hj
      · rename_i e2; subst e2; rw [hl]; exact hj
      · exact hj
    exact ⟨⟨r.mem.os, r.mem.tape, r.mem.output, r.mem.size, r.mem.block, r.mem.okb, fun j o1 hj => r.mem.obj j o1 (lk j o1 hj), fun j o1 b hj => r.mem.blk j o1 b (lk j o1 hj), fun j j' o1 o2 b hj hj' => r.mem.apart j j' o1 o2 b (lk j o1 hj) (lk j' o2 hj')⟩, r.defers, r.nt, r.pin, r.slot⟩
  cases e1 with
  | ot _ _ _ hcap =>
  rcases Nat.eq_zero_or_pos n with rfl | hn
  · have hes : es.take lo ++ List.replicate 0 (zs.map D.lit) ++ es.drop (lo + 0) = es := by simp
    rw [hes]
    refine ⟨.value (.tuple #[]), w, ok, h, ?_, _, .inl rfl, fin w _ same⟩
    simp only [execOp, ho, resolve, invoke, builtin, Sem.run_bind, Sem.run_pure, Result.andThen_ok, List.map_toArray, List.map_cons, List.map_nil, hv]
    cases (h id).sub lo <;> simp [Builtin.clear_, run_underlying hu, Result.andThen]
  · obtain ⟨hsz, hcm, h5⟩ := r.mem.obj id _ hl
    rcases h5 with ⟨h6, h7, h8⟩ | ⟨b, cur, fz, g1, g2, g3, g4, g5, g6, g7⟩
    · subst h7; simp at hp; omega
    · have hsub : (h id).sub lo = some ⟨b, lo * sz, none⟩ := by
        unfold Hd.sub
        rw [if_neg (by omega), g1, hsz]
        rfl
      have hfit : lo * sz + n * sz ≤ cur.size := by
        rw [g6, ← Nat.add_mul]
        exact Nat.mul_le_mul_right _ (by omega)
      have hzc : (Builtin.zeroCells z.cells n).toList.length = n * sz := by simp [Builtin.zeroCells, hzsz]
      have hzg : ∀ q, q < n * sz → (Builtin.zeroCells z.cells n).toList[q]? = zs[q % sz]? := fun q hq => by
        have hm : q % sz < z.cells.size := by rw [hzsz]; exact Nat.mod_lt _ h0
        have h2 : zs[q % sz]? = z.cells[q % sz]? := by rw [← hzl, Array.getElem?_toList]
        rw [h2, Array.getElem?_eq_getElem hm, Array.getElem?_toList]
        simp only [Builtin.zeroCells, hzsz]
        simp [hq, getElem!_pos, hm]
      obtain ⟨w', hr, g, hs', cur', k1, k2, k3⟩ := run_storeCells_row (P := C.P) b e fz (Builtin.zeroCells z.cells n).toList (lo * sz) cur w g2 (by omega) g3 (fun u hu => by
        obtain ⟨q, hq⟩ := List.mem_iff_getElem?.1 hu
        have hql : q < n * sz := by rw [← hzc]; exact (List.getElem?_eq_some_iff.1 hq).1
        rw [hzg q hql] at hq
        exact List.all_eq_true.1 h1 u (List.mem_of_getElem? hq)) (lo * sz) 0 rfl
      rw [hzc] at k3
      have hokb : ∀ k, ok k → w'.heap[k]? = w.heap[k]? := fun k hk => g.block k (r.mem.okb k hk).1 (fun e => by cases e; exact (r.mem.blk id _ b hl g1).2.1 hk)
      have hrow : ∀ j k, (lo ≤ j ∧ j < lo + n) → k < sz → cur'[j * sz + k]? = zs[k]? := fun j k hj hk => by
        have a1 : lo * sz ≤ j * sz := Nat.mul_le_mul_right _ hj.1
        have a2 : (j + 1) * sz ≤ (lo + n) * sz := Nat.mul_le_mul_right _ hj.2
        rw [Nat.add_mul, Nat.add_mul] at a2
        rw [k3, if_pos (by omega), hzg _ (by omega)]
        congr 1
        have : j * sz + k - lo * sz = (j - lo) * sz + k := by rw [Nat.sub_mul]; omega
        rw [this, Nat.mul_add_mod', Nat.mod_eq_of_lt hk]
      have hrow2 : ∀ j k, (j < lo ∨ lo + n ≤ j) → k < sz → cur'[j * sz + k]? = cur[j * sz + k]? := fun j k hj hk => by
        rw [k3, if_neg]
        rintro ⟨a1, a2⟩
        rcases hj with hj | hj
        · have : (j + 1) * sz ≤ lo * sz := Nat.mul_le_mul_right _ hj
          rw [Nat.add_mul] at this
          omega
        · have : (lo + n) * sz ≤ j * sz := Nat.mul_le_mul_right _ hj
          rw [Nat.add_mul] at this
          omega
      refine ⟨.value (.tuple #[]), w', ok, h, ?_, _, .inl rfl, fin w' _ ⟨r.mem.write hl g1 g hs' ⟨hsz, hcm, .inr ⟨b, cur', fz, g1, k1, by rw [k2]; exact g3, g4, ?_, by rw [k2]; exact g6, fun j l hj => ?_⟩⟩, r.defers, r.nt, r.pin, fun i u hu => ?_⟩⟩
      · obtain ⟨m, rfl⟩ : ∃ m, n = m + 1 := ⟨n - 1, by omega⟩
        simp only [execOp, ho, resolve, invoke, builtin, Sem.run_bind, Sem.run_pure, Result.andThen_ok, List.map_toArray, List.map_cons, List.map_nil, hv, hsub]
        simp [Builtin.clear_, run_underlying hu, hzr, hr, Result.andThen]
      · simp only [List.length_append, List.length_take, List.length_replicate, List.length_drop]
        omega
      · by_cases hj1 : j < lo
        · rw [List.append_assoc, List.getElem?_append_left (by simp; omega), List.getElem?_take, if_pos hj1] at hj
          obtain ⟨q1, q2⟩ := g7 j l hj
          refine ⟨q1, fun k d hk => ?_⟩
          obtain ⟨v, q3, q4⟩ := q2 k d hk
          exact ⟨v, by rw [hrow2 j k (.inl hj1) (by rw [← q1]; exact (List.getElem?_eq_some_iff.1 hk).1)]; exact q3, q4.mono hokb fun _ hb => hb⟩
        · by_cases hj2 : j < lo + n
          · rw [List.append_assoc, List.getElem?_append_right (by simp; omega), List.getElem?_append_left (by simp; omega), List.getElem?_replicate] at hj
            split at hj
            · cases hj
              refine ⟨by simp [hzs], fun k d hk => ?_⟩
              rw [List.getElem?_map] at hk
              obtain ⟨v, q3, q4⟩ := Option.map_eq_some_iff.1 hk
              subst q4
              exact ⟨v, by rw [hrow j k ⟨by omega, hj2⟩ (by rw [← hzs]; exact (List.getElem?_eq_some_iff.1 q3).1)]; exact q3, .lit v⟩
            · cases hj
          · rw [List.append_assoc, List.getElem?_append_right (by simp; omega), List.getElem?_append_right (by simp; omega), List.getElem?_drop] at hj
            simp only [List.length_take, List.length_replicate] at hj
            rw [Nat.min_eq_left (by omega), show lo + n + (j - lo - n) = j by omega] at hj
            obtain ⟨q1, q2⟩ := g7 j l hj
            refine ⟨q1, fun k d hk => ?_⟩
            obtain ⟨v, q3, q4⟩ := q2 k d hk
            exact ⟨v, by rw [hrow2 j k (.inr (by omega)) (by rw [← q1]; exact (List.getElem?_eq_some_iff.1 hk).1)]; exact q3, q4.mono hokb fun _ hb => hb⟩
      · obtain ⟨h11, v, h12, h13⟩ := r.slot i u hu
        exact ⟨h11, v, h12, h13.mono hokb fun _ hb => hb⟩

/-! A part of an own slice, appended to its own beginning. -/
theorem ot_src (r : Rep C st ok h a w) {tx e e' sz id lo m : Nat} {gr : Bool × List D} {es : List (List D)} {z : Operand} (h0 : 0 < sz) (hl : look id st.objs = some (.own e sz gr es)) (hu : C.P.underlying tx = some (.slice e')) (e1 : RdV w ok h (.ot id lo m) (a.eval z)) (hm : lo + m ≤ es.length) (hr : rowsOk sz es) :
    ∃ cs, Src C.P sz tx (a.eval z) m cs w ∧ RowsRd w ok sz ((es.drop lo).take m) cs := by
  generalize hv : a.eval z = v at e1
  cases e1 with
  | ot _ _ _ hcap =>
    obtain ⟨hsz, hcm, h5⟩ := r.mem.obj id _ hl
    rcases Nat.eq_zero_or_pos m with rfl | hm0
    · refine ⟨[], ?_, by simp [RowsRd]⟩
      cases hA : (h id).sub lo with
      | none => exact ⟨.inl ⟨_, hu⟩, fun _ => rfl, by simp [Builtin.firstCells], by simp [Builtin.firstCells], by simp, fun _ hx => by cases hx⟩
      | some A => exact Src.ofSlice w hu A 0 _ [] (by simp) (fun j u hj => by simp at hj) (fun u hu => by cases hu)
    · rcases h5 with ⟨h6, h7, h8⟩ | ⟨b, cur, fz, h1, h2, h3, _, h4, h5, h6⟩
      · subst h7; simp at hm; omega
      · have hsub : (h id).sub lo = some ⟨b, lo * sz, none⟩ := by
          unfold Hd.sub
          rw [if_neg (by omega), h1, hsz]
          rfl
        have hfit : lo * sz + m * sz ≤ cur.size := by
          rw [h5, ← Nat.add_mul]
          exact Nat.mul_le_mul_right _ (by omega)
        let G : Nat → Value := fun q => cur.getD (lo * sz + q) undef
        have hlen : ((es.drop lo).take m).length = m := by simp; omega
        obtain ⟨g1, g2⟩ := rowsRd_of (w := w) (ok := ok) (G := G) (es := (es.drop lo).take m) h0 (fun l hl => hr l (List.mem_of_mem_drop (List.mem_of_mem_take hl))) (fun i k l d hi hk => by
          rw [List.getElem?_take] at hi
          split at hi
          · rw [List.getElem?_drop] at hi
            obtain ⟨v, k1, k2⟩ := (h6 (lo + i) l hi).2 k d hk
            rw [Nat.add_mul, Nat.add_assoc] at k1
            have hG : G (i * sz + k) = v := by simp [G, Array.getD_eq_getD_getElem?, k1]
            rw [hG]
            exact k2
          · cases hi)
        rw [hlen] at g1 g2
        rw [hsub]
        refine ⟨_, Src.ofSlice w hu ⟨b, lo * sz, none⟩ m _ ((List.range (m * sz)).map G) (by simp) (fun j u hj => ?_) g2, g1⟩
        simp only [List.getElem?_map, Option.map_eq_some_iff] at hj
        obtain ⟨q, hq', rfl⟩ := hj
        obtain ⟨hlt, hq'⟩ := List.getElem?_eq_some_iff.1 hq'
        simp at hq' hlt
        subst hq'
        rw [addr_add]
        have : lo * sz + j < cur.size := by omega
        simp [World.cell?, h2, G, Array.getElem?_eq_getElem this]
theorem does_appendOt {nt : Nat} (hnt : nt = C.nt) {t tx e sz n lo m id : Nat} {q : Nat × Nat} {y z : Operand} {gr : Bool × List D} {es : List (List D)} {d : Tmp} (ho : o.op = .call { callee := .builtin .append, args := #[y, z], argTypes := #[t, tx] }) (hdst : o.dst = some d) (he : eElem C.P t = some (e, sz)) (hx : eElem C.P tx = some q) (h0 : 0 < sz)
    (hy : ev true st y = some (.os id n)) (hz : ev true st z = some (.ot id lo m)) (hl : look id st.objs = some (.own e sz gr es)) (hd : d < nt) :
    Does C o st { slots := place d (.os id (n + m)) st.slots, objs := place id (.own e sz gr (es.take n ++ (es.drop lo).take m ++ es.drop (n + m))) st.objs } (lo + m ≤ es.length ∧ n + m ≤ es.length ∧ rowsOk sz es) := by
  intro ok h a w r ⟨hp1, hp2, hp3⟩
  obtain ⟨hu, i, hi, hs⟩ := eElem_spec he
  obtain ⟨hux, _⟩ := eElem_spec hx
  simp only at hu hi hs hux
  subst hs
  obtain ⟨cs, hS, hcs⟩ := ot_src r h0 hl hux (ev_sound rfl r hz) hp1 hp3
  have e1 := ev_sound rfl r hy
  generalize hv : a.eval y = v at e1
  cases e1 with
  | os _ _ hcap =>
    obtain ⟨hsz, hcm, h5⟩ := r.mem.obj id _ hl
    have hcl := hcs.1
    have hml : ((es.drop lo).take m).length = m := by simp; omega
    rw [hml] at hcl
    rcases h5 with ⟨h6, h7, h8⟩ | ⟨b, cur, fz, g1, g2, g3, g4, g5, g6, g7⟩
    · subst h7
      obtain ⟨rfl, rfl⟩ : n = 0 ∧ m = 0 := by simp at hp2; omega
      have hA : (h id).addr = none := by simp [Hd.addr, h6]
      refine ⟨.value (.slice (h id).addr 0 (h id).cap), w, ok, h, ?_, _, .inl rfl, ?_⟩
      · rw [hA] at hv ⊢
        simp only [execOp, ho, resolve, invoke, builtin, Sem.run_bind, Sem.run_pure, Result.andThen_ok, List.map_toArray, List.map_cons, List.map_nil, hv]
        rcases hS.kind with ⟨e', hk⟩ | hk <;> simp [Builtin.append_, run_underlying hu, run_underlying hk, sizeOf, typeInfo, hi, hS.len, hS.cells, Result.andThen]
      · have lk : ∀ j o1, look j (place id (O.own e i.size gr (List.take 0 [] ++ List.take 0 (List.drop lo []) ++ List.drop (0 + 0) [])) st.objs) = some o1 → look j st.objs = some o1 := fun j o1 hj => by
          rw [look_place] at hj
          split at hj
          · rename_i e2; subst e2; rw [hl, ← hj]; simp
          · exact hj
        have same : Rep C { st with objs := place id (.own e i.size gr (List.take 0 [] ++ List.take 0 (List.drop lo []) ++ List.drop (0 + 0) [])) st.objs } ok h a w :=
          ⟨⟨r.mem.os, r.mem.tape, r.mem.output, r.mem.size, r.mem.block, r.mem.okb, fun j o1 hj => r.mem.obj j o1 (lk j o1 hj), fun j o1 b hj => r.mem.blk j o1 b (lk j o1 hj), fun j j' o1 o2 b hj hj' => r.mem.apart j j' o1 o2 b (lk j o1 hj) (lk j' o2 hj')⟩, r.defers, r.nt, r.pin, r.slot⟩
        rw [hdst]
        exact same.put (d := some d) (fun u hu => by rw [← Option.some.inj hu, ← hnt]; exact hd) (.os id 0 (by omega))
    · obtain ⟨w', hr, g, hs', cur', k1, k2, k3⟩ := run_append_room_row (P := C.P) (ty := o.type) hu hi g2 g3 hS (by omega : n + m ≤ (h id).cap) g6
      rw [hcl] at k3
      have hokb : ∀ k, ok k → w'.heap[k]? = w.heap[k]? := fun k hk => g.block k (r.mem.okb k hk).1 (fun e => by cases e; exact (r.mem.blk id _ b hl g1).2.1 hk)
      have hnm : n * i.size + m * i.size = (n + m) * i.size := (Nat.add_mul _ _ _).symm
      have hrow : ∀ j k, (n ≤ j ∧ j < n + m) → k < i.size → cur'[j * i.size + k]? = cs[(j - n) * i.size + k]? := fun j k hj hk => by
        have a1 : n * i.size ≤ j * i.size := Nat.mul_le_mul_right _ hj.1
        have a2 : (j + 1) * i.size ≤ (n + m) * i.size := Nat.mul_le_mul_right _ hj.2
        rw [Nat.add_mul] at a2
        rw [k3, if_pos (by omega), Nat.sub_mul]
        congr 1
        omega
      have hrow2 : ∀ j k, (j < n ∨ n + m ≤ j) → k < i.size → cur'[j * i.size + k]? = cur[j * i.size + k]? := fun j k hj hk => by
        rw [k3, if_neg]
        rintro ⟨a1, a2⟩
        rcases hj with hj | hj
        · have : (j + 1) * i.size ≤ n * i.size := Nat.mul_le_mul_right _ hj
          rw [Nat.add_mul] at this
          omega
        · have : (n + m) * i.size ≤ j * i.size := Nat.mul_le_mul_right _ hj
          omega
      refine ⟨.value (.slice (some ⟨b, 0, none⟩) (n + m) (h id).cap), w', ok, h, ?_, _, .inl rfl, ?_⟩
      · simp only [execOp, ho, resolve, invoke, builtin, Sem.run_bind, Sem.run_pure, Result.andThen_ok, List.map_toArray, List.map_cons, List.map_nil, hv, Hd.addr, g1, Option.map_some, hr]
      · rw [hdst]
        refine Rep.put (st := { st with objs := place id (.own e i.size gr (es.take n ++ (es.drop lo).take m ++ es.drop (n + m))) st.objs }) (d := some d) ⟨r.mem.write hl g1 g hs' ⟨hsz, hcm, .inr ⟨b, cur', fz, g1, k1, by rw [k2]; exact g3, g4, ?_, by rw [k2]; exact g6, fun j l hj => ?_⟩⟩, r.defers, r.nt, r.pin, fun i u hu => ?_⟩ (fun u hu => by rw [← Option.some.inj hu, ← hnt]; exact hd) ?_
        · simp only [List.length_append, List.length_take, List.length_drop]
          omega
        · by_cases hj1 : j < n
          · rw [List.append_assoc, List.getElem?_append_left (by simp; omega), List.getElem?_take, if_pos hj1] at hj
            obtain ⟨q1, q2⟩ := g7 j l hj
            refine ⟨q1, fun k d hk => ?_⟩
            obtain ⟨v, q3, q4⟩ := q2 k d hk
            exact ⟨v, by rw [hrow2 j k (.inl hj1) (by rw [← q1]; exact (List.getElem?_eq_some_iff.1 hk).1)]; exact q3, q4.mono hokb fun _ hb => hb⟩
          · by_cases hj2 : j < n + m
            · rw [List.append_assoc, List.getElem?_append_right (by simp; omega), List.getElem?_append_left (by simp; omega)] at hj
              have hlt : (es.take n).length = n := by simp; omega
              rw [hlt] at hj
              obtain ⟨q1, q2⟩ := hcs.2 (j - n) l hj
              refine ⟨q1, fun k d hk => ?_⟩
              obtain ⟨v, q3, q4⟩ := q2 k d hk
              exact ⟨v, by rw [hrow j k ⟨by omega, hj2⟩ (by rw [← q1]; exact (List.getElem?_eq_some_iff.1 hk).1)]; exact q3, q4.mono hokb fun _ hb => hb⟩
            · rw [List.getElem?_append_right (by simp; omega), List.getElem?_drop] at hj
              have hlt : (es.take n ++ (es.drop lo).take m).length = n + m := by simp; omega
              rw [hlt, show n + m + (j - (n + m)) = j by omega] at hj
              obtain ⟨q1, q2⟩ := g7 j l hj
              refine ⟨q1, fun k d hk => ?_⟩
              obtain ⟨v, q3, q4⟩ := q2 k d hk
              exact ⟨v, by rw [hrow2 j k (.inr (by omega)) (by rw [← q1]; exact (List.getElem?_eq_some_iff.1 hk).1)]; exact q3, q4.mono hokb fun _ hb => hb⟩
        · obtain ⟨h11, v, h12, h13⟩ := r.slot i u hu
          exact ⟨h11, v, h12, h13.mono hokb fun _ hb => hb⟩
        · have := RdV.os (w := w') (ok := ok) (h := h) id (n + m) (by omega)
          simpa [Hd.addr, g1] using this
/-! Nothing, so many times, appended to nil. -/
theorem Rep.drew (r : Rep C st ok h a w) : Rep C st ok h a w.drew := ⟨⟨r.mem.os, r.mem.tape, r.mem.output, r.mem.size, r.mem.block, r.mem.okb, fun id o hl => (r.mem.obj id o hl).mono (w := w) (w' := w.drew) (fun _ _ => rfl) (fun _ h => h) (fun _ _ => rfl), r.mem.blk, r.mem.apart⟩, r.defers, r.nt, r.pin, fun i x hx => let ⟨h1, v, h2, h3⟩ := r.slot i x hx; ⟨h1, v, h2, h3.mono (w := w) (w' := w.drew) (fun _ _ => rfl) fun _ h => h⟩⟩
theorem zero_of {P : Program} {e : TypeId} {i : TypeInfo} {z : Value} {w : World} (hi : P.info? e = some i) (hzr : (zeroValue e).run P w = .ok z w) : i.zero = some z := by
  cases hq : i.zero with
  | none => simp [zeroValue, typeInfo, hi, hq] at hzr
  | some z' =>
    simp [zeroValue, typeInfo, hi, hq] at hzr
    rw [hzr]
theorem does_appendZeros {nt : Nat} (hnt : nt = C.nt) (hc : CtxOk C) {t tn e sz by_ : Nat} {zs : List Value} {y z : Operand} {k kn : IntKind} {n : Int} {d : Tmp} (ho : o.op = .call { callee := .builtin .append, args := #[y, z], argTypes := #[t, tn] }) (hdst : o.dst = some d)
    (he : eElem C.P t = some (e, sz)) (htn : C.P.underlying tn = some (.int kn)) (hb : eBytes C.P e = some by_) (hz : eZero C.P e = some zs) (hzs : zs.length = sz) (h0 : 0 < sz) (hy : ev true st y = some (.d (.lit (.slice none 0 0)))) (hz' : ev true st z = some (.d (.lit (.int k n)))) (hf : freshB d st = true) (hd : d < nt) :
    Does C o st { slots := place d (.os d n.toNat) st.slots, objs := place d (.own e sz (true, zs.map D.lit) (List.replicate n.toNat (zs.map D.lit))) st.objs } (0 < n ∧ (by_ : Int) * n ≤ 281474976710656 ∧ n ≤ 9223372036854775807) := by
  intro ok h a w r hp
  obtain ⟨h1, h2, h3⟩ := hp
  obtain ⟨hu, i, hi, hs⟩ := eElem_spec he
  obtain ⟨z, hzr, hzl⟩ := eZero_spec hz w
  have hiz : i.zero = some z ∧ i.bytes = by_ := by
    refine ⟨zero_of hi hzr, ?_⟩
    unfold eBytes at hb
    simp only at hi
    rw [hi] at hb
    exact Option.some.inj hb
  have e1 := lit_of (ev_sound rfl r hy)
  have e2 := lit_of (ev_sound rfl r hz')
  obtain ⟨m, rfl⟩ : ∃ m : Nat, n = m := ⟨n.toNat, by omega⟩
  simp only [Int.toNat_natCast]
  simp only at hs
  subst hs
  have hsize : z.cells.size = i.size := by rw [← hzs, ← hzl]; simp
  have hm : m ≤ maxLen := by simp only [maxLen]; omega
  have hb2 : m * i.bytes ≤ 281474976710656 := by
    rw [hiz.2, Nat.mul_comm]
    have h2' : ((by_ * m : Nat) : Int) ≤ 281474976710656 := by rw [Int.natCast_mul]; exact h2
    omega
  have hrun := Lib.run_append_nil_zeros (P := C.P) w t tn o.type e i z k kn hu htn hi hiz.1 m (by omega) h0 h3 hb2
  have hge := grownCap_ge w m 0 e
  have hle := grownCap_le_maxLen w m 0 e hm
  have hzc : ∀ q j, j < q * z.cells.size → (Builtin.zeroCells z.cells q)[j]? = z.cells[j % z.cells.size]? := fun q j hj => by
    have hpos : 0 < z.cells.size := by omega
    have hmd : j % z.cells.size < z.cells.size := Nat.mod_lt _ hpos
    rw [Array.getElem?_eq_getElem hmd]
    simp [Builtin.zeroCells, hj, getElem!_pos, hmd]
  have hzn : ∀ q, (Builtin.zeroCells z.cells q).size = q * z.cells.size := fun q => by simp [Builtin.zeroCells]
  have rn := newOwn (z := zs.map D.lit) r.drew hc.lt (Nat.lt_of_lt_of_le hd (by rw [hnt]; have := hc.nt; omega)) hf e (sz := i.size) (cap := grownCap w m 0 e) (es := List.replicate m (zs.map D.lit)) (cur := Builtin.zeroCells z.cells m ++ Builtin.zeroCells z.cells (grownCap w m 0 e - m)) hle (by simpa using hge) (by
    rw [Array.size_append, hzn, hzn, hsize, ← Nat.add_mul]
    congr 1
    omega) (fun j l hj => by
    rw [List.getElem?_replicate] at hj
    split at hj
    · rename_i hlt'
      cases hj
      refine ⟨by simp [hzs], fun q d hq => ?_⟩
      rw [List.getElem?_map] at hq
      obtain ⟨v, hv, hvd⟩ := Option.map_eq_some_iff.1 hq
      subst hvd
      have hqs : q < i.size := by rw [← hzs]; exact (List.getElem?_eq_some_iff.1 hv).1
      have hidx : j * i.size + q < m * i.size := by
        have : (j + 1) * i.size ≤ m * i.size := Nat.mul_le_mul_right _ (by omega)
        rw [Nat.add_mul] at this
        omega
      refine ⟨v, ?_, .lit v⟩
      rw [Array.getElem?_append_left (by rw [hzn, hsize]; exact hidx), hzc m _ (by rw [hsize]; exact hidx)]
      have hmm : (j * i.size + q) % z.cells.size = q := by rw [hsize, Nat.mul_add_mod', Nat.mod_eq_of_lt hqs]
      rw [hmm]
      rw [← hzl, Array.getElem?_toList] at hv
      exact hv
    · cases hj)
  refine ⟨.value (.slice (some ⟨w.heap.size, 0, none⟩) m (grownCap w m 0 e)), w.drew.alloc (.cells (Builtin.zeroCells z.cells m ++ Builtin.zeroCells z.cells (grownCap w m 0 e - m)) e), ok, upd h d ⟨some w.heap.size, grownCap w m 0 e, i.size⟩, ?_, .slice (some ⟨w.heap.size, 0, none⟩) m (grownCap w m 0 e), .inl rfl, ?_⟩
  · simp only [execOp, ho, resolve, invoke, builtin, Sem.run_bind, Sem.run_pure, Result.andThen_ok, List.map_toArray, List.map_cons, List.map_nil, e1, e2, hrun]
  · rw [hdst]
    have hos : RdV (w.drew.alloc (.cells (Builtin.zeroCells z.cells m ++ Builtin.zeroCells z.cells (grownCap w m 0 e - m)) e)) ok (upd h d ⟨some w.heap.size, grownCap w m 0 e, i.size⟩) (.os d m) (.slice (some ⟨w.heap.size, 0, none⟩) m (grownCap w m 0 e)) := by
      have := RdV.os (w := w.drew.alloc (.cells (Builtin.zeroCells z.cells m ++ Builtin.zeroCells z.cells (grownCap w m 0 e - m)) e)) (ok := ok) (h := upd h d ⟨some w.heap.size, grownCap w m 0 e, i.size⟩) d m (by rw [upd_same]; exact hge)
      rw [upd_same] at this
      exact this
    exact rn.put (d := some d) (fun u hu => by rw [← Option.some.inj hu, ← hnt]; exact hd) hos
theorem memX_sound {nt : Nat} (hc : CtxOk C) (hnt : nt = C.nt) (he : memX C.P nt o st = some (st', p)) : Does C o st st' p := by
  unfold memX at he
  split at he
  · rename_i t d ho hd
    split at he
    · rename_i e hm
      split at he
      · rename_i hb
        simp only [Bool.and_eq_true, decide_eq_true_eq] at hb
        obtain ⟨rfl, rfl⟩ := Prod.mk.inj (Option.some.inj he)
        exact does_makeMap hnt hc ho hd hb.1 hb.2
      · cases he
    · cases he
  · rename_i t m k z ho hd
    split at he
    · rename_i id s v hm hk hz
      split at he
      · rename_i L e hl hmt
        obtain ⟨rfl, rfl⟩ := Prod.mk.inj (Option.some.inj he)
        exact does_mapUpdate ho hd hm hk hz hl hmt
      · cases he
    · cases he
  · rename_i t m k d ho hd
    split at he
    · rename_i id s hm hk
      split at he
      · rename_i L z hl hmt
        split at he
        · rename_i hlt
          obtain ⟨rfl, rfl⟩ := Prod.mk.inj (Option.some.inj he)
          exact does_mapEntry hnt ho hd hm hk hl hmt hlt
        · cases he
      · cases he
    · cases he
  · rename_i t m i z ho hd
    split at he
    · rename_i id kn n v hm hi hz
      split at he
      · rename_i L hl
        obtain ⟨rfl, rfl⟩ := Prod.mk.inj (Option.some.inj he)
        exact does_entryStore ho hd hm hi hz hl
      · cases he
    · cases he
  · rename_i c ho
    obtain ⟨callee, args, ts⟩ := c
    obtain ⟨args⟩ := args
    obtain ⟨ts⟩ := ts
    simp only at he
    split at he
    · rename_i y t
      split at he
      · rename_i id lo n e sz hy hel
        split at he
        · rename_i e' sz' gr es zs hl hz
          split at he
          · rename_i hb
            obtain ⟨rfl, rfl, h2, h3, h4, h5⟩ := hb
            obtain ⟨rfl, rfl⟩ := Prod.mk.inj (Option.some.inj he)
            exact does_clear hnt ho hel hz h2 h3 h4 hy hl h5
          · cases he
        · cases he
      · cases he
    · rename_i y z t tx
      split at he
      · rename_i d id n id2 lo m e sz q hdst hy hz hel hex
        split at he
        · rename_i e' sz' gr es hl
          split at he
          · rename_i hb
            obtain ⟨rfl, rfl, rfl, h4, h5⟩ := hb
            obtain ⟨rfl, rfl⟩ := Prod.mk.inj (Option.some.inj he)
            exact does_appendOt hnt ho hdst hel hex h4 hy hz hl h5
          · cases he
        · cases he
      · rename_i d _ n e sz hdst hy hz hel hex
        split at he
        · rename_i kn b zs htn hby hzs
          split at he
          · rename_i hb
            obtain ⟨h2, h3, h4, h5⟩ := hb
            obtain ⟨rfl, rfl⟩ := Prod.mk.inj (Option.some.inj he)
            exact does_appendZeros hnt hc ho hdst hel htn hby hzs h2 h3 hy hz h4 h5
          · cases he
        · cases he
      · cases he
    · cases he
  · cases he
end
end Go.Lw
