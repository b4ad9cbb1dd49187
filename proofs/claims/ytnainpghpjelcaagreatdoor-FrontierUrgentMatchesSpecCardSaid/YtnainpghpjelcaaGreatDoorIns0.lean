/-
  Rows of any number of cells, inserted into and deleted from: what is of no program.
-/
import Derived.Test.YtnainpghpjelcaaGreatDoorLwSeal
import Derived.Lib.AppendZerosOnto
import Derived.Lib.Overlaps
import Derived.Lib.SliceRun
import Derived.Laws.IdiomCopy
import Derived.Laws.Externs
set_option linter.unusedSimpArgs false
set_option linter.unusedVariables false
namespace Go.Lw
open Go.RowKit

theorem run_copy_K {P : Program} (w : World) (dT sT ty elem : TypeId) (sz b o dLen dCap : Nat) (a : Addr) (sLen sCap : Nat) (cs : List Value)
    (hu : P.underlying dT = some (.slice elem)) (hs : (P.info? elem).map (·.size) = some sz) (hn : cs.length = Nat.min sLen dLen * sz)
    (hsrc : ∀ j v, cs[j]? = some v → w.cell? (a.add j) = some v) (hc : ∀ j, j < cs.length → (w.cell? ⟨b, o + j, none⟩).isSome = true) (hf : ∀ j, j < cs.length → w.frozen? ⟨b, o + j, none⟩ = false) (h1 : ∀ v ∈ cs, v.oneCell' = true) :
    (Builtin.copy_ #[dT, sT] ty #[.slice (some ⟨b, o, none⟩) dLen dCap, .slice (some a) sLen sCap]).run P w = .ok (goInt (Nat.min sLen dLen)) (w.setCells b o cs) := by
  have hl := run_loadCells_list (P := P) w a cs hsrc
  have hst := run_storeCells_cells (P := P) b o cs 0 w (by simpa using hc) (by simpa using hf) h1
  cases hq : P.info? elem with
  | none => simp [hq] at hs
  | some i =>
    have hi : i.size = sz := by simpa [hq] using hs
    simp [Builtin.copy_, run_underlying hu, Builtin.lenOf, Builtin.firstCells, sizeOf, typeInfo, hq, hi, ← hn, hl, hst]
theorem heap_setCells (b : Nat) (t : TypeId) (fz : Nat × Nat) : ∀ (vs : List Value) (o : Nat) (cur : Array Value) (w : World), w.heap[b]? = some (.cells cur t fz) → o + vs.length ≤ cur.size →
    ∃ cur', (w.setCells b o vs).heap[b]? = some (.cells cur' t fz) ∧ cur'.size = cur.size ∧ ∀ k, cur'[k]? = if o ≤ k ∧ k < o + vs.length then vs[k - o]? else cur[k]?
  | [], o, cur, w, hg, _ => ⟨cur, hg, rfl, fun k => by simp; omega⟩
  | v :: vs, o, cur, w, hg, hl => by
    simp only [List.length_cons] at hl
    have hg' : (w.setCell ⟨b, o, none⟩ v).heap[b]? = some (.cells (cur.setIfInBounds o v) t fz) := by
      simp [World.setCell, Array.getElem?_modify, hg]
    obtain ⟨cur', h2, h3, h4⟩ := heap_setCells b t fz vs (o + 1) (cur.setIfInBounds o v) (w.setCell ⟨b, o, none⟩ v) hg' (by simp; omega)
    refine ⟨cur', h2, by simpa using h3, fun k => ?_⟩
    rw [h4 k]
    simp only [List.length_cons]
    by_cases hk : k = o
    · subst hk
      rw [if_neg (by omega), if_pos (by omega), Array.getElem?_setIfInBounds]
      simp
      omega
    · by_cases hk2 : o + 1 ≤ k ∧ k < o + 1 + vs.length
      · rw [if_pos hk2, if_pos (by omega)]
        obtain ⟨j, rfl⟩ : ∃ j, k = o + 1 + j := ⟨k - (o + 1), by omega⟩
        rw [show o + 1 + j - (o + 1) = j by omega, show o + 1 + j - o = j + 1 by omega]
        rfl
      · rw [if_neg hk2, if_neg (by omega), Array.getElem?_setIfInBounds]
        simp
        omega
theorem setCells_frame (b : Nat) : ∀ (vs : List Value) (o : Nat) (w : World), (w.setCells b o vs).os = w.os ∧ (w.setCells b o vs).tape = w.tape ∧ (w.setCells b o vs).output = w.output ∧ (w.setCells b o vs).heap.size = w.heap.size ∧ ∀ k, k ≠ b → (w.setCells b o vs).heap[k]? = w.heap[k]?
  | [], o, w => ⟨rfl, rfl, rfl, rfl, fun _ _ => rfl⟩
  | v :: vs, o, w => by
    obtain ⟨h1, h2, h3, h4, h5⟩ := setCells_frame b vs (o + 1) (w.setCell ⟨b, o, none⟩ v)
    refine ⟨h1, h2, h3, by rw [World.setCells, h4]; simp [World.setCell], fun k hk => ?_⟩
    rw [World.setCells, h5 k hk]
    simp [World.setCell, Array.getElem?_modify, Ne.symm hk]
theorem isSome_setCellsK (b : Nat) (vs : List Value) (o : Nat) (w : World) (h : ∀ j, j < vs.length → (w.cell? ⟨b, o + j, none⟩).isSome = true) (k : Nat) (hk : (w.cell? ⟨b, k, none⟩).isSome = true) : ((w.setCells b o vs).cell? ⟨b, k, none⟩).isSome = true := by
  by_cases hin : o ≤ k ∧ k < o + vs.length
  · have := World.cell?_setCells_in b vs o w h (k - o) (by omega)
    rw [show o + (k - o) = k by omega] at this
    rw [this]; rfl
  · rw [World.cell?_setCells_out b vs o w ⟨b, k, none⟩ (fun _ _ => by show k < o ∨ o + vs.length ≤ k; omega)]
    exact hk
/-! The operation in the walk, where its run is known. -/
section
variable {P : Program}
theorem wp_copyK (w : World) {o : Oper} {a : Act} {K : Act → World → Prop} {Q : Exit → Act → World → Prop} (d s : Operand) (t t' : TypeId)
    (ho : o.op = .call { callee := .builtin .copy, args := #[d, s], argTypes := #[t, t'] }) (v u : Value) (hd : a.eval d = v) (hs : a.eval s = u) {v' : Value} {w' : World}
    (hr : (Builtin.copy_ #[t, t'] o.type #[v, u]).run P w = .ok v' w') (h : K (a.put o.dst v') w') : o.wp P a w K Q := by
  unfold Oper.wp execOp
  simp only [ho, resolve, invoke, builtin, Sem.run_bind, Sem.run_pure, Result.andThen_ok, List.map_toArray, List.map_cons, List.map_nil, hd, hs, hr]
  exact h
theorem wpList_copyK (w : World) {ops : Array Oper} {rest : List Oper} {o : Oper} {a : Act} {Q : Exit → Act → World → Prop} (hgd : o.guard = none) (d s : Operand) (t t' : TypeId)
    (ho : o.op = .call { callee := .builtin .copy, args := #[d, s], argTypes := #[t, t'] }) (v u : Value) (hd : a.eval d = v) (hs : a.eval s = u) {v' : Value} {w' : World}
    (hr : (Builtin.copy_ #[t, t'] o.type #[v, u]).run P w = .ok v' w') (h : wpList P ops Q rest (a.put o.dst v') w') : wpList P ops Q (o :: rest) a w :=
  wpList_plain hgd fun _ hK => wp_copyK w d s t t' ho v u hd hs hr (hK _ _ h)
theorem step_copyK {ops : Array Oper} {o : Oper} {a : Act} {w : World} {K : Act → World → Prop} {Q : Exit → Act → World → Prop} {E : Prop}
    (hg : o.guard = none) (d x : Operand) (dT sT : TypeId) (hop : o.op = Op.call { callee := Callee.builtin Builtin.copy, args := #[d, x], argTypes := #[dT, sT] })
    (v u : Value) (hd : a.eval d = v) (hx : a.eval x = u) {v' : Value} {w' : World} (hr : (Builtin.copy_ #[dT, sT] o.type #[v, u]).run P w = .ok v' w') (hK : K (a.put o.dst v') w') :
    if Region.wanted o (yielded ops a.tmps) = true then Oper.wp P o a w K Q else E := by
  have hw : Region.wanted o (yielded ops a.tmps) = true := by simp [Region.wanted, hg]
  rw [if_pos hw]
  exact wp_copyK w d x dT sT hop v u hd hx hr hK
end
/-! What a call leaves behind that handed back its row, written or grown. -/
theorem left_row {ok : Nat → Prop} {h : Nat → Hd} {w w' : World} {e sz : Nat} {gr : Bool × List D} {es' : List (List D)} {objs : List (Nat × O)} {o : O} {b' cap' n : Nat} {cur' : Array Value} (hok : ∀ k, ok k → k < w.heap.size) (hlies : Lies w ok h objs) (hl : look 50001 objs = some o)
    (hos : w'.os = w.os) (htape : w'.tape = w.tape) (hout : w'.output = w.output) (hsize : w.heap.size ≤ w'.heap.size)
    (hblk : ∀ k, k < w.heap.size → k ≠ b' → w'.heap[k]? = w.heap[k]?) (hb' : (h 50001).blk = some b' ∨ (w.heap.size ≤ b' ∧ b' < w'.heap.size))
    (hh : w'.heap[b']? = some (.cells cur' e (0, 0))) (hsz : cur'.size = cap' * sz) (hcap : cap' ≤ maxLen) (hle : es'.length ≤ cap') (hn : n ≤ cap') (hrd : OwnRd w ok sz es' cur') :
    Left objs [(50001, .own e sz gr es')] (.os 50001 n) ok h w ok (upd h 50001 ⟨some b', cap', sz⟩) w' (.slice (some ⟨b', 0, none⟩) n cap') := by
  have hnb : ∀ b, ok b → b ≠ b' := fun b hb e => by
    subst e
    rcases hb' with h1 | h1
    · exact (hlies.blk _ _ b hl h1).2 hb
    · have := hok b hb; omega
  have hokb : ∀ b, ok b → w'.heap[b]? = w.heap[b]? := fun b hb => hblk b (hok b hb) (hnb b hb)
  have one : ∀ id o1, look id [(50001, O.own e sz gr es')] = some o1 → id = 50001 ∧ o1 = .own e sz gr es' := fun id o1 hx => by
    simp only [look] at hx
    split at hx
    · rename_i e1; cases hx; exact ⟨e1.symm, rfl⟩
    · cases hx
  refine ⟨hos, htape, hout, hsize, fun k hk hnl => hblk k hk fun e1 => ?_, fun k hk => hk, fun k hk => ⟨by have := hok k hk; omega, .inl hk⟩, ⟨fun id o1 hx => ?_, fun id o1 b hx hb => ?_, fun id id' o1 o2 b hx hx' hne => ?_⟩, fun id o1 b hx hb => ?_, fun id hid => upd_ne h 50001 _ id (by omega), ?_⟩
  · subst e1
    rcases hb' with h1 | h1
    · exact hnl ⟨50001, o, hl, h1⟩
    · omega
  · obtain ⟨rfl, rfl⟩ := one id o1 hx
    refine ⟨by rw [upd_same], by rw [upd_same]; exact hcap, .inr ⟨b', cur', (0, 0), by rw [upd_same], hh, fun o _ => by simp, fun _ => rfl, by rw [upd_same]; exact hle, by rw [upd_same]; exact hsz, ?_⟩⟩
    exact hrd.mono hokb fun _ hb => hb
  · obtain ⟨rfl, rfl⟩ := one id o1 hx
    rw [upd_same] at hb
    obtain rfl := Option.some.inj hb
    rcases hb' with h1 | h1
    · obtain ⟨h2, h3⟩ := hlies.blk _ _ _ hl h1
      exact ⟨by omega, h3⟩
    · exact ⟨h1.2, fun hk => by have := hok _ hk; omega⟩
  · obtain ⟨rfl, _⟩ := one id o1 hx
    obtain ⟨rfl, _⟩ := one id' o2 hx'
    exact absurd rfl hne
  · obtain ⟨rfl, rfl⟩ := one id o1 hx
    rw [upd_same] at hb
    obtain rfl := Option.some.inj hb
    rcases hb' with h1 | h1
    · exact .inr ⟨o, hl, h1⟩
    · exact .inl h1.1
  · have := RdV.os (w := w') (ok := ok) (h := upd h 50001 ⟨some b', cap', sz⟩) 50001 n (by rw [upd_same]; exact hn)
    rw [upd_same] at this
    exact this
/-- The cells of a row that lies there. -/
theorem own_cells {w : World} {ok : Nat → Prop} {sz : Nat} {es : List (List D)} {cur : Array Value} (hrd : OwnRd w ok sz es cur) (hle : es.length * sz ≤ cur.size) : RowsRd w ok sz es (cur.toList.take (es.length * sz)) := by
  have := OwnRd.rows hrd (Nat.le_refl es.length) hle
  rwa [List.take_length] at this
theorem rows_take {w : World} {ok : Nat → Prop} {sz : Nat} {es : List (List D)} {cs : List Value} (hrd : RowsRd w ok sz es cs) (i : Nat) (hi : i ≤ es.length) : RowsRd w ok sz (es.take i) (cs.take (i * sz)) := by
  refine ⟨?_, fun j l hj => ?_⟩
  · have : i * sz ≤ es.length * sz := Nat.mul_le_mul_right _ hi
    rw [List.length_take, List.length_take, hrd.1, Nat.min_eq_left hi, Nat.min_eq_left this]
  · rw [List.getElem?_take] at hj
    split at hj
    · rename_i hji
      obtain ⟨h1, h2⟩ := hrd.2 j l hj
      refine ⟨h1, fun k d hk => ?_⟩
      obtain ⟨v, h3, h4⟩ := h2 k d hk
      have hk' : k < sz := by rw [← h1]; exact (List.getElem?_eq_some_iff.1 hk).1
      have : (j + 1) * sz ≤ i * sz := Nat.mul_le_mul_right _ hji
      rw [Nat.add_mul] at this
      exact ⟨v, by rw [List.getElem?_take, if_pos (by omega)]; exact h3, h4⟩
    · cases hj
theorem rows_drop {w : World} {ok : Nat → Prop} {sz : Nat} {es : List (List D)} {cs : List Value} (hrd : RowsRd w ok sz es cs) (i : Nat) : RowsRd w ok sz (es.drop i) (cs.drop (i * sz)) := by
  refine ⟨?_, fun j l hj => ?_⟩
  · rw [List.length_drop, List.length_drop, hrd.1, Nat.sub_mul]
  · rw [List.getElem?_drop] at hj
    obtain ⟨h1, h2⟩ := hrd.2 _ l hj
    refine ⟨h1, fun k d hk => ?_⟩
    obtain ⟨v, h3, h4⟩ := h2 k d hk
    exact ⟨v, by rw [List.getElem?_drop, ← h3, Nat.add_mul, Nat.add_assoc], h4⟩
theorem rows_one {w : World} {ok : Nat → Prop} {sz : Nat} {es : List (List D)} {cs : List Value} (hrd : RowsRd w ok sz es cs) (hr : rowsOk sz es) (h0 : 0 < sz) : ∀ u ∈ cs, u.oneCell' = true := by
  intro u hu
  obtain ⟨q, hq⟩ := List.mem_iff_getElem?.1 hu
  have hql : q < es.length * sz := by rw [← hrd.1]; exact (List.getElem?_eq_some_iff.1 hq).1
  have hi : q / sz < es.length := Nat.div_lt_of_lt_mul (by rw [Nat.mul_comm]; exact hql)
  have hm := hr _ (List.getElem_mem hi)
  have hk : q % sz < (es[q / sz]).length := by rw [hm.1]; exact Nat.mod_lt _ h0
  obtain ⟨_, h2⟩ := hrd.2 (q / sz) _ (List.getElem?_eq_getElem hi)
  obtain ⟨v, h3, h4⟩ := h2 (q % sz) _ (List.getElem?_eq_getElem hk)
  rw [Nat.div_add_mod', hq] at h3
  cases h3
  exact oneV_sound (w := w) (ok := ok) (h := fun _ => ⟨none, 0, 0⟩) (List.all_eq_true.1 hm.2 _ (List.getElem_mem hk)) (.d _ _ h4)
theorem ins_rows {w : World} {ok : Nat → Prop} {sz i : Nat} {es : List (List D)} {x : List D} {cs vs : List Value} (hrd : RowsRd w ok sz es cs) (hx : RowsRd w ok sz [x] vs) (hi : i ≤ es.length) : RowsRd w ok sz (es.take i ++ x :: es.drop i) (cs.take (i * sz) ++ vs ++ cs.drop (i * sz)) := by
  have := ((rows_take hrd i hi).append hx).append (rows_drop hrd i)
  simpa using this
end Go.Lw
