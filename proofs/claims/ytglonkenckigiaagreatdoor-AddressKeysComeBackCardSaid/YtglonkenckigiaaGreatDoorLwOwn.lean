/-
  SLICES OF THE FUNCTION's OWN: made, filled, appended to, on list-level states.
-/
import Derived.Test.YtglonkenckigiaaGreatDoorLwMem
import Derived.Maps.AppendAt
set_option linter.unusedSimpArgs false
set_option linter.unusedVariables false
namespace Go.Lw
open Go.RowKit

def OwnRd (w : World) (ok : Nat → Prop) (sz : Nat) (es : List (List D)) (cur : Array Value) : Prop :=
  ∀ (i : Nat) (l : List D), es[i]? = some l → l.length = sz ∧ ∀ (k : Nat) (d : D), l[k]? = some d → ∃ v, cur[i * sz + k]? = some v ∧ RdD w ok d v

section
variable {C : Ctx} {st : St} {ok : Nat → Prop} {h : Nat → Hd} {a : Act} {w w' : World} {o : Oper} {x : V} {p : Prop}

theorem OwnRd.mono {w w' : World} {ok ok' : Nat → Prop} {sz : Nat} {es : List (List D)} {cur : Array Value} (hw : ∀ b, ok b → w'.heap[b]? = w.heap[b]?) (ho : ∀ b, ok b → ok' b) (hx : OwnRd w ok sz es cur) : OwnRd w' ok' sz es cur :=
  fun i l hi => ⟨(hx i l hi).1, fun k d hk => let ⟨v, hv, hr⟩ := (hx i l hi).2 k d hk; ⟨v, hv, hr.mono hw ho⟩⟩

/-- A new row of the function's own. -/
theorem newOwn (r : Rep C st ok h a w) (hlt : ∀ b, C.lent b → b < C.w0.heap.size) {id : Nat} (hid : id < 100000) (hf : freshB id st = true) (e : TypeId) {sz cap : Nat} {es : List (List D)} {z : List D} {cur : Array Value} (hcap : cap ≤ maxLen) (hle : es.length ≤ cap) (hsz : cur.size = cap * sz)
    (ho : OwnRd w ok sz es cur) : Rep C { st with objs := place id (.own e sz (true, z) es) st.objs } ok (upd h id ⟨some w.heap.size, cap, sz⟩) a (w.alloc (.cells cur e)) := by
  refine r.new hlt hid hf _ _ _ rfl ⟨by rw [upd_same], by rw [upd_same]; exact hcap, .inr ⟨w.heap.size, cur, (0, 0), by rw [upd_same], heap_alloc_new w _, fun o _ => by simp, fun _ => rfl, by rw [upd_same]; exact hle, by rw [upd_same]; exact hsz, ?_⟩⟩
  exact ho.mono (fun b hb => Below.heap_alloc w _ b (r.mem.okb b hb).1) fun _ hb => hb

/-! make -/
theorem madeCells_get (z : Array Value) (n k : Nat) (hz : 0 < z.size) (hk : k < n) : (madeCells z n)[k]? = some (z[k % z.size]'(Nat.mod_lt _ hz)) := by
  have : k % z.size < z.size := Nat.mod_lt _ hz
  simp [madeCells, hk, getElem!_pos, this]
theorem madeCells_size (z : Array Value) (n : Nat) : (madeCells z n).size = n := by simp [madeCells]

theorem does_make {nt : Nat} (hnt : nt = C.nt) (hc : CtxOk C) {t e sz by_ : Nat} {zs : List Value} {y z : Operand} {k k' : IntKind} {n : Int} {d : Tmp} (ho : o.op = .makeSlice t y z) (hdst : o.dst = some d)
    (he : eElem C.P t = some (e, sz)) (hb : eBytes C.P e = some by_) (hz : eZero C.P e = some zs) (hzs : zs.length = sz) (h0 : 0 < sz) (hy : ev true st y = some (.d (.lit (.int k n)))) (hz' : ev true st z = some (.d (.lit (.int k' n)))) (hf : freshB d st = true) (hd : d < nt) :
    Does C o st { slots := place d (.os d n.toNat) st.slots, objs := place d (.own e sz (true, zs.map D.lit) (List.replicate n.toNat (zs.map D.lit))) st.objs } (0 ≤ n ∧ (by_ : Int) * n ≤ 281474976710656 ∧ n ≤ 9223372036854775807) := by
  intro ok h a w r hp
  obtain ⟨h1, h2, h3⟩ := hp
  obtain ⟨hu, i, hi, hs⟩ := eElem_spec he
  obtain ⟨z, hzr, hzl⟩ := eZero_spec hz w
  have hiz : i.zero = some z ∧ i.bytes = by_ := by
    unfold eZero at hz
    unfold eBytes at hb
    simp only at hi
    rw [hi] at hb
    have hbb := Option.some.inj hb
    refine ⟨?_, hbb⟩
    have : (zeroValue e).run C.P w = .ok z w := hzr
    simp [zeroValue, typeInfo, hi] at this
    split at this <;> simp_all
  have e1 := lit_of (ev_sound rfl r hy)
  have e2 := lit_of (ev_sound rfl r hz')
  have hrun := run_make (P := C.P) w t e i z hu hi hiz.1 k k' n n h1 (Int.le_refl _) (by rw [hiz.2]; exact h2) h3
  have hsize : z.cells.size = sz := by rw [← hzs, ← hzl]; simp
  have hn : n.toNat ≤ maxLen := by simp only [maxLen]; omega
  have rn := newOwn (z := zs.map D.lit) r hc.lt (Nat.lt_of_lt_of_le hd (by rw [hnt]; have := hc.nt; omega)) hf e (sz := sz) (cap := n.toNat) (es := List.replicate n.toNat (zs.map D.lit)) (cur := madeCells z.cells (n.toNat * i.size)) hn (by simp) (by rw [madeCells_size, hs]) (fun j l hj => by
    rw [List.getElem?_replicate] at hj
    split at hj
    · rename_i hlt'
      cases hj
      refine ⟨by simp [hzs], fun q d hq => ?_⟩
      rw [List.getElem?_map] at hq
      obtain ⟨v, hv, hvd⟩ := Option.map_eq_some_iff.1 hq
      subst hvd
      have hqs : q < sz := by rw [← hzs]; exact (List.getElem?_eq_some_iff.1 hv).1
      have hidx : j * sz + q < n.toNat * i.size := by
        rw [hs]
        have : (j + 1) * sz ≤ n.toNat * sz := Nat.mul_le_mul_right _ (by omega)
        rw [Nat.add_mul] at this
        simp only at this ⊢
        omega
      refine ⟨v, ?_, .lit v⟩
      rw [madeCells_get _ _ _ (by omega) hidx]
      have hm : (j * sz + q) % z.cells.size = q := by
        rw [hsize, Nat.mul_add_mod', Nat.mod_eq_of_lt hqs]
      have hzq : z.cells[q]? = some v := by rw [← hzl, Array.getElem?_toList] at hv; exact hv
      have hql : q < z.cells.size := by omega
      rw [Array.getElem?_eq_getElem hql] at hzq
      have := Option.some.inj hzq
      subst this
      congr 1
      exact getElem_congr_idx hm
    · cases hj)
  refine ⟨.value (.slice (some ⟨w.heap.size, 0, none⟩) n.toNat n.toNat), w.alloc (.cells (madeCells z.cells (n.toNat * i.size)) e), ok, upd h d ⟨some w.heap.size, n.toNat, sz⟩, ?_, .slice (some ⟨w.heap.size, 0, none⟩) n.toNat n.toNat, .inl rfl, ?_⟩
  · simp [execOp, ho, e1, e2, hrun]
  · rw [hdst]
    have hos : RdV (w.alloc (.cells (madeCells z.cells (n.toNat * i.size)) e)) ok (upd h d ⟨some w.heap.size, n.toNat, sz⟩) (.os d n.toNat) (.slice (some ⟨w.heap.size, 0, none⟩) n.toNat n.toNat) := by
      have := RdV.os (w := w.alloc (.cells (madeCells z.cells (n.toNat * i.size)) e)) (ok := ok) (h := upd h d ⟨some w.heap.size, n.toNat, sz⟩) d n.toNat (by rw [upd_same]; exact Nat.le_refl _)
      rw [upd_same] at this
      exact this
    exact rn.put (d := some d) (fun u hu => by rw [← Option.some.inj hu, ← hnt]; exact hd) hos

/-! a slice literal -/
def rowsV (sz : Nat) : List (List D) → List (Nat × Option V) → Option (List (List D))
  | es, [] => some es
  | es, (i, some x) :: rest => match allD (cellsV x) with
    | some ds => if (cellsV x).all oneV && ds.length == sz && decide (i < es.length) then rowsV sz (es.set i ds) rest else none
    | none => none
  | _, (_, none) :: _ => none

theorem rowsV_length {sz : Nat} : ∀ {parts : List (Nat × Option V)} {es es' : List (List D)}, rowsV sz es parts = some es' → es'.length = es.length
  | [], es, es', he => by cases he; rfl
  | (i, some x) :: rest, es, es', he => by
    simp only [rowsV] at he
    split at he
    · split at he
      · rw [rowsV_length he]; simp
      · cases he
    · cases he
  | (_, none) :: _, es, es', he => by cases he

theorem rowsV_sound {R : Operand → Option V} (hR : Tells w ok h a R) {sz : Nat} : ∀ {parts : List (Nat × Operand)} {es es' : List (List D)} {cur : Array Value},
    rowsV sz es (parts.map fun q => (q.1, R q.2)) = some es' → OwnRd w ok sz es cur → es.length * sz ≤ cur.size →
      ∃ cur', Instr.fill (fun i => some (i * sz, sz)) cur (parts.map fun q => (q.1, a.eval q.2)) = some cur' ∧ cur'.size = cur.size ∧ OwnRd w ok sz es' cur'
  | [], es, es', cur, he, hr, _ => by
    cases he
    exact ⟨cur, rfl, rfl, hr⟩
  | (i, y) :: parts, es, es', cur, he, hr, hle => by
    simp only [List.map_cons] at he ⊢
    cases hy : R y with
    | none => simp [hy, rowsV] at he
    | some x =>
      rw [hy] at he
      simp only [rowsV] at he
      split at he
      · rename_i ds hds
        split at he
        · rename_i hb
          simp only [Bool.and_eq_true, decide_eq_true_eq, beq_iff_eq] at hb
          have hc := allD_spec hds
          obtain ⟨h2, h3⟩ := cellsV_sound hb.1.1 (hR _ _ hy)
          have hvs : (a.eval y).cells.size = sz := by rw [h2, hc]; simpa using hb.1.2
          have hfit : i * sz + (a.eval y).cells.size ≤ cur.size := by
            have : (i + 1) * sz ≤ es.length * sz := Nat.mul_le_mul_right _ (by omega)
            rw [Nat.add_mul] at this
            omega
          obtain ⟨h6, h7⟩ := foldl_arr (i * sz) (a.eval y).cells cur hfit
          have hr' : OwnRd w ok sz (es.set i ds) ((a.eval y).cells.zipIdx.foldl (fun cs x => cs.setIfInBounds (i * sz + x.2) x.1) cur) := by
            intro j l hj
            by_cases hij : j = i
            · subst hij
              rw [List.getElem?_set_self hb.2] at hj
              cases hj
              refine ⟨hb.1.2, fun k d hk => ?_⟩
              have hkl : k < sz := by rw [← hb.1.2]; exact (List.getElem?_eq_some_iff.1 hk).1
              obtain ⟨u, h8, h9, _⟩ := h3 k (.d d) (by rw [hc]; simp [hk])
              refine ⟨u, ?_, by cases h9 with | d _ _ h => exact h⟩
              rw [h7, if_pos (by omega)]
              rw [show j * sz + k - j * sz = k by omega]
              exact h8
            · rw [List.getElem?_set_ne (fun e => hij e.symm)] at hj
              obtain ⟨h8, h9⟩ := hr j l hj
              refine ⟨h8, fun k d hk => ?_⟩
              obtain ⟨v, h10, h11⟩ := h9 k d hk
              have hkl : k < sz := by rw [← h8]; exact (List.getElem?_eq_some_iff.1 hk).1
              refine ⟨v, ?_, h11⟩
              rw [h7, if_neg ?_]
              · exact h10
              · intro ⟨ha, hb'⟩
                rcases Nat.lt_or_gt_of_ne hij with hlt | hgt
                · have : (j + 1) * sz ≤ i * sz := Nat.mul_le_mul_right _ (by omega)
                  rw [Nat.add_mul] at this
                  omega
                · have : (i + 1) * sz ≤ j * sz := Nat.mul_le_mul_right _ (by omega)
                  rw [Nat.add_mul] at this
                  omega
          obtain ⟨cur', h8, h9, h10⟩ := rowsV_sound hR he hr' (by simp only [List.length_set]; rw [h6]; exact hle)
          refine ⟨cur', ?_, by rw [h9, h6], h10⟩
          simp only [Instr.fill]
          rw [if_neg (by simp; omega)]
          exact h8
        · cases he
      · cases he

theorem does_lit {nt : Nat} (hnt : nt = C.nt) (hc : CtxOk C) {t e sz n : Nat} {zs : List Value} {parts : Array (Nat × Operand)} {es : List (List D)} {d : Tmp} (ho : o.op = .buildSlice t n parts) (hdst : o.dst = some d)
    (he : eElem C.P t = some (e, sz)) (hz : eZero C.P e = some zs) (hzs : zs.length = sz) (h0 : 0 < sz) (hn : n * sz ≤ 16777216) (hes : rowsV sz (List.replicate n (zs.map D.lit)) (parts.toList.map fun q => (q.1, ev true st q.2)) = some es)
    (hf : freshB d st = true) (hd : d < nt) :
    Does C o st { slots := place d (.os d n) st.slots, objs := place d (.own e sz (true, zs.map D.lit) es) st.objs } True := by
  intro ok h a w r _
  obtain ⟨hu, i, hi, hs⟩ := eElem_spec he
  simp only at hi hs hu
  obtain ⟨z, hzr, hzl⟩ := eZero_spec hz w
  have hsize : z.cells.size = sz := by rw [← hzs, ← hzl]; simp
  have hnl : n ≤ n * sz := Nat.le_mul_of_pos_right n h0
  have hbase : OwnRd w ok sz (List.replicate n (zs.map D.lit)) ((Array.range (n * sz)).map fun k => z.cells[k % z.cells.size]!) := by
    intro j l hj
    rw [List.getElem?_replicate] at hj
    split at hj
    · cases hj
      refine ⟨by simp [hzs], fun q d hq => ?_⟩
      rw [List.getElem?_map] at hq
      obtain ⟨v, hv, hvd⟩ := Option.map_eq_some_iff.1 hq
      subst hvd
      have hqs : q < sz := by rw [← hzs]; exact (List.getElem?_eq_some_iff.1 hv).1
      have hidx : j * sz + q < n * sz := by
        have : (j + 1) * sz ≤ n * sz := Nat.mul_le_mul_right _ (by omega)
        rw [Nat.add_mul] at this
        omega
      refine ⟨v, ?_, .lit v⟩
      have hm : (j * sz + q) % z.cells.size = q := by
        rw [hsize, Nat.mul_add_mod', Nat.mod_eq_of_lt hqs]
      have hzq : z.cells[q]? = some v := by rw [← hzl, Array.getElem?_toList] at hv; exact hv
      simp [hidx, hm, getElem!_def, hzq]
    · cases hj
  obtain ⟨cur, h1, h2, h3⟩ := rowsV_sound (fun y z => ev_sound rfl r) hes hbase (by simp)
  have hlen : es.length = n := by rw [rowsV_length hes]; simp
  have hcur : cur.size = n * sz := by rw [h2]; simp
  have rn := newOwn (z := zs.map D.lit) r hc.lt (Nat.lt_of_lt_of_le hd (by rw [hnt]; have := hc.nt; omega)) hf e (sz := sz) (cap := n) (es := es) (cur := cur) (by simp only [maxLen]; omega) (by omega) hcur h3
  refine ⟨.value (.slice (some ⟨w.heap.size, 0, none⟩) n n), w.alloc (.cells cur e), ok, upd h d ⟨some w.heap.size, n, sz⟩, ?_, .slice (some ⟨w.heap.size, 0, none⟩) n n, .inl rfl, ?_⟩
  · have hparts : (parts.map fun q => (q.1, a.eval q.2)).toList = parts.toList.map fun q => (q.1, a.eval q.2) := by simp
    have hso : eSz C.P e = some sz := by unfold eSz; rw [hi]; simp [hs]
    have hbig : ¬ n * sz > 2 ^ 24 := by omega
    by_cases hn0 : n * sz = 0
    · have hc0 : cur.size = 0 := by omega
      have harr : ∀ zz : Array Value, ((Array.range (n * sz)).map fun k => zz[k % zz.size]!) = ((Array.range (n * sz)).map fun k => z.cells[k % z.cells.size]!) := fun zz => by
        rw [hn0]; simp
      simp only [execOp, ho, Instr.buildSlice, Sem.run_bind, run_underlying hu, Result.andThen_ok, run_sizeOf hso]
      rw [if_neg hbig]
      simp only [hn0, if_true, Sem.run_pure, Sem.run_bind, Result.andThen_ok]
      have h1' := h1
      rw [← harr #[], hn0] at h1'
      simp only [hparts, h1']
      simp [newRow]
    · simp only [execOp, ho, Instr.buildSlice, Sem.run_bind, run_underlying hu, Result.andThen_ok, run_sizeOf hso]
      rw [if_neg hbig]
      simp only [hn0, if_false, Sem.run_pure, Sem.run_bind, Result.andThen_ok, hzr, hparts, h1]
      simp [newRow]
  · rw [hdst]
    have hos : RdV (w.alloc (.cells cur e)) ok (upd h d ⟨some w.heap.size, n, sz⟩) (.os d n) (.slice (some ⟨w.heap.size, 0, none⟩) n n) := by
      have := RdV.os (w := w.alloc (.cells cur e)) (ok := ok) (h := upd h d ⟨some w.heap.size, n, sz⟩) d n (by rw [upd_same]; exact Nat.le_refl _)
      rw [upd_same] at this
      exact this
    exact rn.put (d := some d) (fun u hu => by rw [← Option.some.inj hu, ← hnt]; exact hd) hos
end
end Go.Lw
